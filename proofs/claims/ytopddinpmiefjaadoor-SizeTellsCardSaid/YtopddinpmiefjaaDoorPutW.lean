/- The walk of the reference's Put. -/
import Derived.Test.YtopddinpmiefjaaDoorMake
import Derived.Test.YtopddinpmiefjaaDoorSizeMath
import Derived.Test.YtopddinpmiefjaaDoorProg
namespace Go.Proofs.YtopddinpmiefjaaDoor
set_option linter.unusedVariables false
open Go.RowKit Go.Mny
theorem sh_step (n : Int) (k : Nat) : n / 2 ^ (8 * (k + 1)) = n / 2 ^ (8 * k) / 256 := by
  rw [show 8 * (k + 1) = 8 * k + 8 by omega, Int.pow_add, show (2 : Int) ^ 8 = 256 from rfl]
  exact (Int.ediv_ediv_of_nonneg (Int.pow_nonneg (by decide))).symm
def fillB (s : Nat) (n : Int) (q : Nat) : List Int := List.replicate q 0 ++ (Siz.bytesOf s n).drop q
theorem fillB_len (s : Nat) (n : Int) {q : Nat} (h : q ≤ s) : (fillB s n q).length = s := by
  simp [fillB, Siz.bytesOf_length]; omega
theorem fillB_set (s : Nat) (n : Int) {r : Nat} (h : r + 1 ≤ s) : (fillB s n (r + 1)).set r (n / 2 ^ (8 * (s - (r + 1))) % 256) = fillB s n r := by
  have hr : r < (Siz.bytesOf s n).length := by rw [Siz.bytesOf_length]; omega
  have hd : (Siz.bytesOf s n).drop r = (n / 2 ^ (8 * (s - (r + 1))) % 256) :: (Siz.bytesOf s n).drop (r + 1) := by
    rw [List.drop_eq_getElem_cons hr]
    congr 1
    simp only [Siz.bytesOf, List.getElem_map, List.getElem_range]
    rw [show s - 1 - r = s - (r + 1) by omega]
  unfold fillB
  rw [hd, List.replicate_succ', List.append_assoc, List.set_append_right _ _ (by simp), List.length_replicate, Nat.sub_self]; rfl
def PutP (n : Int) (s : Nat) (w : World) (e : Ending) (w' : World) : Prop :=
  ∃ g, e = .returned (.tuple #[.slice (some ⟨g, 0, none⟩) s s, .bool (decide (n / 2 ^ (8 * s) = 0))]) ∧ Own w' w.heap.size 5 1 (some ⟨g, 0, none⟩) s s ((Siz.bytesOf s n).map (Value.int .u8)) ∧ Below w.heap.size w w'
set_option maxHeartbeats 1000000 in
set_option maxRecDepth 100000 in
theorem put_any (n : Int) (s : Nat) (w : World) (h0 : 0 ≤ n) (h1 : n ≤ 9223372036854775807) (hs1 : 1 ≤ s) (hs : s ≤ 8) :
    Calls Tryd.prog 25 #[.int .i64 n, .int .i64 (s : Int)] w (PutP n s w) := by
  have t1 : (1 : Int) ≤ (s : Int) := by omega
  have t2 : (s : Int) ≤ 8 := by omega
  go_enter Tryd.func25, Tryd.ntmps25
  go_wp2_with (with_reducible refine halt_op (some 19) (.makeSlice _ _ _) (fun K hK => ?_))
  refine go_on hK ?_; clear hK
  refine make_full (.int .u8 0) Tryd.underlying37 (b := 1) (by kernel_rfl) rfl rfl (.tmp 18) (.tmp 18) rfl rfl rfl (n := s) (by omega) (by simp [maxLen]; omega) ?_
  intro g w1 hg o1 e1 hz
  have O1 : Hid (Own w1 w.heap.size 5 1 (some ⟨g, 0, none⟩) s s ((fillB s n s).map (Value.int .u8))) := hid (by
    have : (fillB s n s).map (Value.int .u8) = List.replicate s (.int .u8 0) := by
      unfold fillB
      rw [List.drop_of_length_le (by rw [Siz.bytesOf_length]; exact Nat.le_refl _)]; simp
    rw [this]; exact o1)
  have E1 := hid e1
  have hgw : w.heap.size ≤ g := by omega
  clear o1 e1 hg hz
  go_wp2_with fail
  go_loopw [0, 7] (fun v0 v7 wr => ∃ (q : Nat) (m : Int), q ≤ s ∧ v7 = .int .i64 ((q : Int) - 1) ∧ v0 = .int .i64 m ∧ 0 ≤ m ∧ m ≤ 9223372036854775807 ∧ Hid (n / 2 ^ (8 * (s - q)) = m) ∧ Hid (Own wr w.heap.size 5 1 (some ⟨g, 0, none⟩) s s ((fillB s n q).map (Value.int .u8))) ∧ Hid (Below w.heap.size w wr)) (fun _ v7 _ => (intOf v7 + 1).toNat)
  case atStart => exact ⟨s, n, Nat.le_refl _, rfl, rfl, h0, h1, by show _ = _; simp, O1, E1⟩
  case round =>
    obtain ⟨q, m, hq, rfl, rfl, hm0, hm1, HM, HO, HE⟩ := hrel
    cases q with
    | zero =>
      have HM2 : Hid (n / 2 ^ (8 * s) = m) := HM
      have HF : Hid (fillB s n 0 = Siz.bytesOf s n) := by show _ = _; simp [fillB]
      rw [HF.out] at HO
      go_wp2_with fail
      go_ret2
      exact ⟨g, by rw [HM2.out]; rfl, unhid HO, unhid HE⟩
    | succ r =>
      rw [show (((r + 1 : Nat) : Int) - 1) = (r : Int) by omega]
      have i1 : (0 : Int) ≤ (r : Int) := by omega
      have i2 : (r : Int) < (s : Int) := by omega
      have hst := fillB_set s n (show r + 1 ≤ s by omega)
      rw [HM.out] at hst
      have HST := hid hst
      have hm2 : n / 2 ^ (8 * (s - r)) = m / 256 := by rw [show s - r = s - (r + 1) + 1 by omega, sh_step, HM.out]
      have HM2 := hid hm2
      clear hst hm2
      go_wp2_with (with_reducible refine halt_op none (.store _ _ _) (fun K hK => ?_))
      refine go_on hK ?_; clear hK
      refine store_own1 (v := .int .u8 (m % 256)) (by kernel_rfl) rfl (.tmp 31) (.tmp 30) rfl (unhid HO) (by omega) rfl rfl (.inl ⟨_, _, rfl⟩) ?_
      intro w3 o3 g3
      rw [← List.map_set, HST.out] at o3
      have O3 := hid o3
      have E3 := hid ((unhid HE).grown g3 (unhid HE).size (fun j h => by injection h with h; omega))
      clear o3 g3
      go_wp2_with fail
      go_roundw
      case rel => exact ⟨r, m / 256, by omega, rfl, rfl, by omega, by omega, HM2, O3, E3⟩
      case measure => simp [intOf]
end Go.Proofs.YtopddinpmiefjaaDoor

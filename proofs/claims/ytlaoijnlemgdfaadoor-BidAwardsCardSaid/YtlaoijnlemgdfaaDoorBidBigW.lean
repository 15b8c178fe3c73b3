/- The walk of bid.big: a number's bytes, the highest one first. -/
import Derived.Test.YtlaoijnlemgdfaaDoorLst
import Derived.Test.YtlaoijnlemgdfaaDoorMake
import Derived.Test.YtlaoijnlemgdfaaDoorConcatW
namespace Go.Proofs.YtlaoijnlemgdfaaDoor
set_option linter.unusedVariables false
open Go.RowKit Go.Mny
def bigAt (n : Nat) (s q : Nat) : Nat := n / 2 ^ (8 * (s - 1 - q)) % 256
def bigN (n s : Nat) : List Nat := lst s (bigAt n s)
def bigK (n s k q : Nat) : Nat := if s - k ≤ q then bigAt n s q else 0
theorem bigN_len (n s : Nat) : (bigN n s).length = s := lst_len _ _
theorem bigN_B8 (n s : Nat) : B8 (bigN n s) := by
  intro x hx
  obtain ⟨q, _, rfl⟩ := List.mem_map.1 hx
  exact Nat.mod_lt _ (by decide)
theorem bigK_zero (n s : Nat) : lst s (bigK n s 0) = List.replicate s 0 := by
  unfold lst
  rw [List.map_congr_left (g := fun _ => 0) (fun q hq => by have := List.mem_range.1 hq; unfold bigK; rw [if_neg (by omega)]), List.map_const', List.length_range]
theorem bigK_all (n s : Nat) : lst s (bigK n s s) = bigN n s := lst_congr fun q _ => by unfold bigK; rw [if_pos (by omega)]
theorem bigK_step (n s k : Nat) (h : k < s) : (lst s (bigK n s k)).set (s - 1 - k) (n / 2 ^ (8 * k) % 256) = lst s (bigK n s (k + 1)) := lst_set fun q hq => by
  unfold bigK bigAt
  by_cases e : q = s - 1 - k
  · rw [if_pos (by omega), if_pos e]
    rw [show s - 1 - q = k by omega]
  · rw [if_neg e]
    by_cases h1 : s - k ≤ q
    · rw [if_pos (by omega), if_pos h1]
    · rw [if_neg (by omega), if_neg h1]
def BigP (n s : Nat) (w : World) (e : Ending) (w' : World) : Prop := ∃ g, e = .returned (.slice (some ⟨g, 0, none⟩) s s) ∧ Own w' w.heap.size 5 1 (some ⟨g, 0, none⟩) s s (bytes (bigN n s)) ∧ Below w.heap.size w w'
theorem bytes_zeros (n : Nat) : List.replicate n (Value.int .u8 0) = bytes (List.replicate n 0) := by simp [bytes, up]
theorem bytes_setc (l : List Nat) (i x : Nat) : (bytes l).set i (.int .u8 (x : Int)) = bytes (l.set i x) := by simp [bytes, up, List.map_set]
set_option maxHeartbeats 1000000 in
set_option maxRecDepth 100000 in
theorem big_any (n s : Nat) (w : World) (hn : n ≤ 9223372036854775807) (hs : s ≤ 8) :
    Calls Tryd.prog 45 #[.int .i64 (n : Int), .int .i64 (s : Int)] w (BigP n s w) := by
  go_enter Tryd.func45, Tryd.ntmps45
  go_wp2_with (with_reducible refine halt_op (some 8) (.makeSlice _ _ _) (fun K hK => ?_))
  refine go_on hK ?_; clear hK
  refine make_full (.int .u8 0) Tryd.underlying24 (b := 1) (by kernel_rfl) rfl rfl (.tmp 7) (.tmp 7) rfl rfl rfl (n := s) (by omega) (by simp [maxLen]; omega) ?_
  intro g w2 hg o2 e2 hz2
  rw [bytes_zeros, ← bigK_zero n s] at o2
  have hgw : w.heap.size ≤ g := by omega
  have O2 := hid o2; have E2 := hid e2
  clear o2 e2 hg hz2
  go_wp2_with fail
  go_loopw [11] (fun v11 wr => ∃ k : Nat, k ≤ s ∧ v11 = .int .i64 k ∧ Hid (Own wr w.heap.size 5 1 (some ⟨g, 0, none⟩) s s (bytes (lst s (bigK n s k)))) ∧ Hid (Below w.heap.size w wr)) (fun v11 _ => s - (intOf v11).toNat)
  case atStart => exact ⟨0, Nat.zero_le _, rfl, O2, E2⟩
  case round =>
    obtain ⟨k, hk, rfl, HO, HB⟩ := hrel
    by_cases hks : k < s
    · obtain ⟨j, hj⟩ : ∃ j, s = j + 1 + k := ⟨s - 1 - k, by omega⟩
      have i1 : (k : Int) < (s : Int) := by omega
      have e1 : (s : Int) - 1 - (k : Int) = (j : Int) := by omega
      have i2 : (0 : Int) ≤ (j : Int) := by omega
      have i3 : (j : Int) < (s : Int) := by omega
      have i4 : (0 : Int) ≤ 8 * (k : Int) := by omega
      have i5 : 8 * (k : Int) ≤ 64 := by omega
      have t1 : (8 * (k : Int)).toNat = 8 * k := by omega
      have hg1 := (unhid HO).get1 (i := j) (by omega)
      have hc : wr.cell? ⟨g, j, none⟩ = some (.int .u8 ((bigK n s k j : Nat) : Int)) := hg1.1.trans (by unfold bytes up; rw [List.map_map, List.getElem?_map, lst_get _ (by omega)]; rfl)
      have hf := hg1.2
      have hst := ((unhid HO).set1 (i := j) (by omega) (.int .u8 ((n / 2 ^ (8 * k) % 256 : Nat) : Int))).2.1
      have hset := bigK_step n s k hks
      rw [show s - 1 - k = j by omega] at hset
      rw [bytes_setc, hset] at hst
      have HST := hid hst
      have HJ := hid hj
      have hd : ((n / 2 ^ (8 * k) % 256 : Nat) : Int) = (n : Int) / 2 ^ (8 * k) % 256 := by
        rw [Int.natCast_emod, Int.natCast_ediv, Int.natCast_pow]; rfl
      rw [hd] at HST
      clear hg1 hst hset hj hd
      go_wp2_with fail
      go_roundw
      case rel => exact ⟨k + 1, by omega, by go_num, HST, hid ((unhid HB).setCell (p := ⟨g, j, none⟩) hgw _)⟩
      case measure => simp [intOf]; omega
    · have hks2 : k = s := by omega
      have i1 : ¬ (k : Int) < (s : Int) := by omega
      rw [hks2, bigK_all] at HO
      clear hks2
      go_wp2_with fail
      go_ret
      exact ⟨g, rfl, unhid HO, unhid HB⟩
end Go.Proofs.YtlaoijnlemgdfaaDoor

/- Walks of size.Read at any place, slices.Clone at bytes, size.Unpack. -/
import Derived.Test.YtopddinpmiefjaaDoorReadW
import Derived.WalkSpells
namespace Go.Proofs.YtopddinpmiefjaaDoor
set_option linter.unusedVariables false
open Go.RowKit Go.Mny
theorem read_any (A : Option Addr) (n c D : Nat) (at_ : Int) (l : List Int) (w : World) (h : Row w D 1 A n (l.map (Value.int .u8))) (hb : Siz.Bytes l) (hn : n ≤ 4611686018427387904) (hc : n ≤ c) :
    Calls Tryd.prog 19 #[.slice A n c, .int .i64 at_] w (ReadPost w l at_) := by
  have hl := h.length
  by_cases h0 : at_ < 0
  · have R := hid (show readAt l at_ = (0, 0, 2) by unfold readAt; rw [if_pos h0])
    clear h hl
    go_enter Tryd.func19, Tryd.ntmps19
    go_wp2
    go_ret3
    exact ⟨by rw [R.out]; rfl, rfl⟩
  · by_cases h1 : (n : Int) ≤ at_
    · have R := hid (show readAt l at_ = (0, 0, 3) by unfold readAt; rw [if_neg h0, if_pos (by omega)])
      clear h hl
      go_enter Tryd.func19, Tryd.ntmps19
      go_wp2
      go_ret3
      exact ⟨by rw [R.out]; rfl, rfl⟩
    · obtain ⟨p, rfl⟩ := Int.eq_ofNat_of_zero_le (show 0 ≤ at_ by omega)
      exact read_in A n c D p l w h hb hn hc (by omega)
/-- A new slice of these elements, or nil where there are none. -/
def Cloned (w : World) (l : List Int) (e : Ending) (w' : World) : Prop :=
  ∃ A c, e = .returned (.slice A l.length c) ∧ Own w' w.heap.size 5 1 A l.length c (l.map (Value.int .u8)) ∧ Below w.heap.size w w'
theorem clone_any (A : Option Addr) (n c D : Nat) (l : List Int) (w : World) (h : Row w D 1 A n (l.map (Value.int .u8))) (hD : D ≤ w.heap.size) (hn : n ≤ 140737488355000) :
    Calls Tryd.prog 29 #[.slice A n c] w (Cloned w l) := by
  have HL := hid h.length
  have H := hid h
  cases A with
  | none =>
    have hn0 : n = 0 := by
      rcases Nat.eq_zero_or_pos n with e | e
      · exact e
      · obtain ⟨g, o, e1, _⟩ := h.cells e; cases e1
    subst hn0
    clear h
    have hq := fun W : World => Lib.run_eql_slice_nil (P := Tryd.prog) W 37 5 none 0 c 0 0 Tryd.underlying37
    go_enter Tryd.func29, Tryd.ntmps29
    go_wp2
    go_ret
    have l0 : l = [] := List.eq_nil_of_length_eq_zero (by rw [HL.out])
    subst l0
    exact ⟨none, 0, rfl, Own.none _ _ _ _, Below.refl _ _⟩
  | some x =>
    clear h
    have hq := fun W : World => Lib.run_eql_slice_nil (P := Tryd.prog) W 37 5 (some x) n c 0 0 Tryd.underlying37
    go_enter Tryd.func29, Tryd.ntmps29
    go_wp2_with (at_builtin; refine halt_at (fun K hK => ?_))
    refine go_on hK ?_; clear hK
    refine app_new bytesE rfl (.tmp 5) (.tmp 6) rfl rfl (Own.lit_at _ w.heap.size 5 1 0 _ _ [] rfl (Nat.le_refl _) (by decide) rfl rfl) rfl ((unhid H).alloc hD _) (ints_one .u8 l) (by simp [maxLen]; omega) (by omega) (by simp) ?_
    intro A2 c2 w2 o2 g2 l2
    have b2 : Below w.heap.size w w2 := Below.grown ((Below.refl _ _).alloc (Nat.le_refl _) _) g2 (by simp) (fun q hq => by simp [at_] at hq; omega)
    have HO2 := hid o2; have HB2 := hid b2
    clear o2 b2 g2 l2
    go_wp2
    go_ret
    have e := HL.out
    subst e
    exact ⟨A2, c2, rfl, HO2.out, HB2.out⟩
theorem readAt_ok {l : List Int} (hb : Siz.Bytes l) {at_ m nx : Int} (h : readAt l at_ = (m, nx, 0)) : 0 ≤ at_ ∧ 0 ≤ m ∧ m < 9223372036854775808 ∧ at_ + 1 ≤ nx ∧ nx ≤ (l.length : Int) ∧ Siz.ofN m = (l.drop at_.toNat).take (nx - at_).toNat := by
  unfold readAt at h
  by_cases h0 : at_ < 0
  · rw [if_pos h0] at h; simp at h
  · rw [if_neg h0] at h
    by_cases h1 : (l.length : Int) ≤ at_
    · rw [if_pos h1] at h; simp at h
    · rw [if_neg h1] at h
      obtain ⟨p, rfl⟩ := Int.eq_ofNat_of_zero_le (show 0 ≤ at_ by omega)
      simp only [Int.toNat_natCast] at h ⊢
      generalize hr : Siz.read (l.drop p) = r at h
      obtain ⟨a, k, e⟩ := r
      simp only [Prod.mk.injEq] at h
      obtain ⟨rfl, h2, rfl⟩ := h
      rw [if_pos rfl] at h2
      subst h2
      obtain ⟨g0, g1, g2, g3, g4⟩ := Siz.ofN_read _ (fun x hx => hb x (List.mem_of_mem_drop hx)) _ _ hr
      rw [List.length_drop] at g2
      refine ⟨by omega, g0, g1, by omega, by omega, ?_⟩
      rw [show ((p : Int) + k - p).toNat = k by omega]
      exact g4
/-- What Unpack tells: bytes, place behind, what is wrong. -/
def unpackAt (l : List Int) (at_ : Int) : List Int × Int × Int :=
  let r := readAt l at_
  if r.2.2 ≠ 0 then ([], 0, r.2.2) else if (l.length : Int) - r.2.1 < r.1 then ([], 0, 3) else ((l.drop r.2.1.toNat).take r.1.toNat, r.2.1 + r.1, 0)
def UnpackPost (w : World) (l : List Int) (at_ : Int) (e : Ending) (w' : World) : Prop :=
  ∃ A c, e = .returned (.tuple #[.slice A (unpackAt l at_).1.length c, .int .i64 (unpackAt l at_).2.1, errV' (unpackAt l at_).2.2]) ∧ Own w' w.heap.size 5 1 A (unpackAt l at_).1.length c ((unpackAt l at_).1.map (Value.int .u8)) ∧ Below w.heap.size w w'
set_option maxHeartbeats 1000000 in
set_option maxRecDepth 100000 in
theorem unpack_any (A : Option Addr) (n c D : Nat) (at_ : Int) (l : List Int) (w : World) (h : Row w D 1 A n (l.map (Value.int .u8))) (hb : Siz.Bytes l) (hD : D ≤ w.heap.size) (hn : n ≤ 140737488355000) (hc : n ≤ c) :
    Calls Tryd.prog 22 #[.slice A n c, .int .i64 at_] w (UnpackPost w l at_) := by
  have hl := h.length
  have C := hid (read_any A n c D at_ l w h hb (by omega) hc)
  generalize hr : readAt l at_ = r at *
  obtain ⟨m, nx, e⟩ := r
  by_cases he : e = 0
  · subst he
    obtain ⟨g0, g1, g2, g3, g4, _⟩ := readAt_ok hb hr
    have C2 : Hid (Calls Tryd.prog 19 #[.slice A n c, .int .i64 at_] w fun e w' => e = .returned (.tuple #[.int .i64 m, .int .i64 nx, .nilIface]) ∧ w = w') := by
      have := C.out; unfold ReadPost at this; rw [hr] at this; exact this
    obtain ⟨i, rfl⟩ := Int.eq_ofNat_of_zero_le (show 0 ≤ nx by omega)
    obtain ⟨k, rfl⟩ := Int.eq_ofNat_of_zero_le g1
    have H := hid h
    by_cases hk : (l.length : Int) - i < k
    · have U := hid (show unpackAt l at_ = ([], 0, 3) by unfold unpackAt; rw [hr]; simp only [ne_eq, not_true_eq_false, if_false]; rw [if_pos hk])
      have hk2 : (n : Int) - i < k := by rw [← hl]; exact hk
      have hi : (i : Int) ≤ n := by rw [← hl]; exact g4
      clear hr g3 g4 hk h hb hl C
      go_enter Tryd.func22, Tryd.ntmps22
      go_wp2_with fail
      refine (unhid C2).mono ?_
      rintro e w' ⟨rfl, rfl⟩
      go_wp2_with fail
      go_ret3
      exact ⟨none, 0, by rw [U.out]; rfl, by rw [U.out]; exact Own.none _ _ _ _, Below.refl _ _⟩
    · have U := hid (show unpackAt l at_ = ((l.drop i).take k, (i : Int) + k, 0) by unfold unpackAt; rw [hr]; simp only [ne_eq, not_true_eq_false, if_false, Int.toNat_natCast]; rw [if_neg hk])
      have hk2 : ¬ (n : Int) - i < k := by rw [← hl]; exact hk
      have hi : i + k ≤ n := by omega
      have HL := hid hl
      clear hr g3 g4 hk h hb hl C g2 g1
      have hin : IntKind.i64.wrap ((i : Int) + (k : Int)) = (i : Int) + (k : Int) := IntWalk.i64_in _ (by omega)
      go_enter Tryd.func22, Tryd.ntmps22
      go_wp2_with fail
      refine (unhid C2).mono ?_
      rintro e w' ⟨rfl, rfl⟩
      go_wp2_with (with_reducible refine halt_op (some 32) (.slice _ _ _ _ _) (fun K hK => ?_))
      refine go_on hK ?_; clear hK
      refine slice_step bytesE rfl (.tmp 27) (some (.tmp 28)) (some (.tmp 31)) rfl rfl (.at_ (k := .i64) (i := i) rfl) (.at_ (k := .i64) (i := i + k) (by first | rfl | exact congrArg (Value.int .i64) hin | go_goals)) (unhid H) (by omega) hi hc ?_
      intro A2 R2
      rw [Nat.mul_one, Nat.mul_one, ← List.map_take, ← List.map_drop, List.drop_take, Nat.add_sub_cancel_left] at R2
      have R := hid R2; clear R2
      generalize List.take k (List.drop i l) = q at U R
      rw [Nat.add_sub_cancel_left]
      go_wp2_with fail
      refine (clone_any A2 k _ D _ _ (unhid R) hD (by omega)).mono ?_
      rintro e w' ⟨A3, c3, rfl, ho, hb⟩
      have HO := hid ho; have HB := hid hb; clear ho hb
      go_wp2_with fail
      go_ret3
      exact ⟨A3, c3, by rw [U.out]; rfl, by rw [U.out]; exact HO.out, HB.out⟩
  · have U := hid (show unpackAt l at_ = ([], 0, e) by unfold unpackAt; rw [hr]; simp only; rw [if_pos he])
    have hv : errV' e = .iface 23 (.int .i64 e) := if_neg he
    have C2 : Hid (Calls Tryd.prog 19 #[.slice A n c, .int .i64 at_] w fun e' w' => e' = .returned (.tuple #[.int .i64 m, .int .i64 nx, .iface 23 (.int .i64 e)]) ∧ w = w') := by
      have := C.out; unfold ReadPost at this; rw [hr, hv] at this; exact this
    have V := hid hv
    clear hr hl h hb C hv
    go_enter Tryd.func22, Tryd.ntmps22
    go_wp2_with fail
    refine (unhid C2).mono ?_
    rintro e w' ⟨rfl, rfl⟩
    go_wp2_with fail
    go_ret3
    exact ⟨none, 0, by rw [U.out, ← V.out]; rfl, by rw [U.out]; exact Own.none _ _ _ _, Below.refl _ _⟩
end Go.Proofs.YtopddinpmiefjaaDoor

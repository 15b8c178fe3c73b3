/- The walk of audit.sides. -/
import Derived.Test.YtjdffhlbiiefaaaDoorRevBW
import Derived.Test.YtjdffhlbiiefaaaDoorHalfW
namespace Go.Proofs.YtjdffhlbiiefaaaDoor
set_option linter.unusedVariables false
open Go.RowKit Go.Mny Aud
def SidesP (w : World) (bs : List Bool) (e : Ending) (w' : World) : Prop := ∃ A m c, e = .returned (.slice A m c) ∧ bs.length = m ∧ Own w' w.heap.size 4 1 A m c (bv bs) ∧ Below w.heap.size w w'
theorem Row.litB (w : World) (e : Nat) (b : Bool) : Row (w.alloc (.cells #[.bool b] e)) (w.heap.size + 1) 1 (some ⟨w.heap.size, 0, none⟩) 1 [.bool b] := by
  refine ⟨rfl, fun _ => ⟨w.heap.size, 0, rfl, by omega, fun j _ => ?_⟩⟩
  rw [Nat.zero_add, cell_of_row _ _ j #[.bool b] e (0, 0) (heap_alloc_new w _)]
  simp
theorem one_bool (b : Bool) : ∀ u ∈ [Value.bool b], u.oneCell' = true := by intro u hu; rw [List.mem_singleton.1 hu]; rfl
def lenI (v : Value) : Nat := (intOf v).toNat
set_option maxHeartbeats 4000000 in
set_option maxRecDepth 100000 in
theorem sides_any (i n : Nat) (w : World) (hi : i < n) (hn : n ≤ 256) :
    Calls Tryd.prog 18 #[.int .i64 (i : Int), .int .i64 (n : Int)] w (SidesP w (sides i n).reverse) := by
  have SL := hid (sides_len i n)
  go_enter Tryd.func18, Tryd.ntmps18
  go_wp2_with fail
  go_loopw [0, 1, 4] (fun v0 v1 v4 wr => ∃ (j k : Nat) (A : Option Addr) (m c : Nat) (bs : List Bool), j < k ∧ k ≤ 256 ∧ v0 = .int .i64 (j : Int) ∧ v1 = .int .i64 (k : Int) ∧ v4 = .slice A m c ∧ Hid (Own wr w.heap.size 4 1 A m c (bv bs)) ∧ Hid (bs.length = m) ∧ Hid (bs ++ sides j k = sides i n) ∧ Hid (Below w.heap.size w wr)) (fun _ v1 _ _ => lenI v1)
  case atStart => exact ⟨i, n, none, 0, 0, [], hi, hn, rfl, rfl, rfl, Own.none _ _ _ _, rfl, rfl, Below.refl _ _⟩
  case round =>
    obtain ⟨j, k, A, m, c, bs, hj, hk, rfl, rfl, rfl, HO, HM, HS, HB⟩ := hrel
    have hml : m ≤ 255 := by
      have a := congrArg List.length HS.out
      rw [List.length_append, HM.out] at a
      have := SL.out
      omega
    by_cases h2 : 2 ≤ k
    · have k1 := half_pos k
      have k2 := half_lt h2
      obtain ⟨q, hq⟩ : ∃ q, q = Aud.half k := ⟨_, rfl⟩
      rw [← hq] at k1 k2
      have HQ := hid hq
      have i1 : (1 : Int) < (k : Int) := by omega
      by_cases hjq : j < q
      · have E : Hid (sides j k = true :: sides j q) := by show _ = _; rw [hq]; exact sides_left h2 (by rw [← hq]; exact hjq)
        have i2 : decide (j < q) = true := by simpa using hjq
        have i3 : (j : Int) < (q : Int) := by omega
        clear hq
        go_wp2_with (first | (go_at_call 16; refine (half_any k _ h2 hk).mono ?_; rintro e w' ⟨rfl, rfl⟩; rw [← HQ.out]) | (at_builtin; refine halt_at (fun K hK => ?_)))
        refine go_on hK ?_; clear hK
        refine app_step boolsE rfl (.tmp 10) (.tmp 14) rfl rfl ((unhid HO).alloc _) rfl (Row.litB wr _ true) (one_bool true) (by simp [maxLen]; omega) (by omega) (by have := (unhid HB).size; simp; omega) ?_
        intro A2 c2 w2 o2 g2 l2
        have O2 : Hid (Own w2 w.heap.size 4 1 A2 (m + 1) c2 (bv (bs ++ [true]))) := by
          show Own _ _ _ _ _ _ _ _
          unfold bv at o2 ⊢
          rw [List.map_append]; exact o2
        have B2 := hid (Below.grown ((unhid HB).alloc (unhid HB).size _) g2 (by have := (unhid HB).size; simp; omega) (fun q hq => ((unhid HO).from_ q hq).1))
        have S2 : Hid ((bs ++ [true]) ++ sides j q = sides i n) := by
          show _ = _
          rw [← HS.out, E.out, List.append_assoc]; rfl
        have M2 : Hid ((bs ++ [true]).length = m + 1) := by show _ = _; rw [List.length_append, HM.out]; rfl
        clear o2 g2 l2 HO HB
        go_wp2_with fail
        go_roundw
        case rel => exact ⟨j, q, A2, m + 1, c2, bs ++ [true], hjq, by omega, rfl, rfl, rfl, O2, M2, S2, B2⟩
        case measure => simp [lenI, intOf]; omega
      · have E : Hid (sides j k = false :: sides (j - q) (k - q)) := by show _ = _; rw [hq]; exact sides_right h2 (by rw [← hq]; exact hjq)
        have i2 : decide (j < q) = false := by simpa using hjq
        have i3 : ¬ ((j : Int) < (q : Int)) := by omega
        have hjq' : q ≤ j := by omega
        clear hq
        go_wp2_with (first | (go_at_call 16; refine (half_any k _ h2 hk).mono ?_; rintro e w' ⟨rfl, rfl⟩; rw [← HQ.out]) | (at_builtin; refine halt_at (fun K hK => ?_)))
        refine go_on hK ?_; clear hK
        refine app_step boolsE rfl (.tmp 10) (.tmp 14) rfl rfl ((unhid HO).alloc _) rfl (Row.litB wr _ false) (one_bool false) (by simp [maxLen]; omega) (by omega) (by have := (unhid HB).size; simp; omega) ?_
        intro A2 c2 w2 o2 g2 l2
        have O2 : Hid (Own w2 w.heap.size 4 1 A2 (m + 1) c2 (bv (bs ++ [false]))) := by
          show Own _ _ _ _ _ _ _ _
          unfold bv at o2 ⊢
          rw [List.map_append]; exact o2
        have B2 := hid (Below.grown ((unhid HB).alloc (unhid HB).size _) g2 (by have := (unhid HB).size; simp; omega) (fun q hq => ((unhid HO).from_ q hq).1))
        have S2 : Hid ((bs ++ [false]) ++ sides (j - q) (k - q) = sides i n) := by
          show _ = _
          rw [← HS.out, E.out, List.append_assoc]; rfl
        have M2 : Hid ((bs ++ [false]).length = m + 1) := by show _ = _; rw [List.length_append, HM.out]; rfl
        clear o2 g2 l2 HO HB
        go_wp2_with fail
        go_roundw
        case rel => exact ⟨j - q, k - q, A2, m + 1, c2, bs ++ [false], by omega, by omega, by rw [Int.ofNat_sub hjq'], by rw [Int.ofNat_sub (by omega)], rfl, O2, M2, S2, B2⟩
        case measure => simp [lenI, intOf]; omega
    · have i1 : ¬ ((1 : Int) < (k : Int)) := by omega
      have E : Hid (bs = sides i n) := by
        have := HS.out
        rw [sides_end h2, List.append_nil] at this
        exact this
      clear hj hk
      go_wp2_with fail
      refine (reverseB_any bs A m c w.heap.size _ HM.out (by omega) (unhid HO)).mono ?_
      rintro e w5 ⟨rfl, o5, b5⟩
      have O5 := hid o5
      have B5 := hid ((unhid HB).trans b5)
      rw [E.out] at O5
      have M5 : Hid ((sides i n).reverse.length = m) := by show _ = _; rw [List.length_reverse, ← E.out, HM.out]
      clear o5 b5
      go_wp2_with fail
      go_ret
      exact ⟨A, m, c, rfl, M5.out, unhid O5, unhid B5⟩
end Go.Proofs.YtjdffhlbiiefaaaDoor

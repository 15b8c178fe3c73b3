/- The walk of the law KeyApart. -/
import Derived.Test.YtopddinpmiefjaaKeyDigW
import Derived.OpenShut
namespace Go.Proofs.Ytopddinpmiefjaa
set_option linter.unusedVariables false
open Go.RowKit Go.Mny
/-- Is one of the first k digits of a less than b's? -/
def lessTo (a b : List Int) (k : Nat) : Bool := (List.range k).any fun j => decide (Kd.dig a j < Kd.dig b j)
theorem lessTo_succ (a b : List Int) (k : Nat) : lessTo a b (k + 1) = (lessTo a b k || decide (Kd.dig a k < Kd.dig b k)) := by simp [lessTo, List.range_succ]
theorem lessTo_self (a : List Int) (k : Nat) : lessTo a a k = false := by simp [lessTo]
theorem lessTo_ne (a b : List Int) (ha : a.length = 32) (hb : b.length = 32) (h1 : ByL a) (h2 : ByL b) (h : a ≠ b) : lessTo a b 67 = true := by
  have by_ : ∀ l : List Int, ByL l → Kd.Bytes l := fun l hl k => by
    rw [List.getD_eq_getElem?_getD]
    cases e : l[k]? with
    | none => simp
    | some z => exact hl z (List.mem_of_getElem? e)
  cases hc : lessTo a b 67 with
  | true => rfl
  | false =>
    exfalso
    apply h
    have all : ∀ i, i < 67 → Kd.dig b i ≤ Kd.dig a i := by
      intro i hi
      have := List.any_eq_false.1 hc i (by simp [hi])
      simp at this; exact this
    have e := Kd.same_of_le a b (by_ a h1) (by_ b h2) all
    refine List.ext_getElem (by omega) fun i hi1 hi2 => ?_
    have := e i (by omega)
    simpa [List.getD_eq_getElem?_getD, List.getElem?_eq_getElem hi1, List.getElem?_eq_getElem hi2] using this
theorem digs_get (m : List Int) (k : Nat) (hk : k < 67) : (cellsOf .i64 (Kd.digs m))[k]? = some (.int .i64 (Kd.dig m k)) := by simp [cellsOf, Kd.digs, hk]
theorem dig_range (l : List Int) (hl : ByL l) (k : Nat) : 0 ≤ Kd.dig l k ∧ Kd.dig l k ≤ 15 := Kd.dig_bd l (fun k => by
    rw [List.getD_eq_getElem?_getD]
    cases e : l[k]? with
    | none => simp
    | some z => exact hl z (List.mem_of_getElem? e)) k
theorem noEqGuard : Try.prog.eqGuardType Try.prog.depth 26 = false := by kernel_rfl
set_option maxHeartbeats 1000000 in
set_option maxRecDepth 100000 in
theorem keyApart_core (l0 l1 : List Int) (w : World) (q0 : l0.length = 32) (f0 : ByL l0) (q1 : l1.length = 32) (f1 : ByL l1) :
    Calls Try.prog 4 #[.agg (cellsOf .u8 l0), .agg (cellsOf .u8 l1)] w fun e w' => e = .returned (.bool true) ∧ Below w.heap.size w w' := by
  have Q0 := hid q0; have Q1 := hid q1; have F0 := hid f0; have F1 := hid f1; clear q0 q1 f0 f1
  go_enter Try.func4, Try.ntmps4
  go_wp2_with (first
    | (with_reducible refine halt_op (some 2) (.box _ _) (fun K hK => ?_)))
  refine go_on hK ?_; clear hK
  refine box_arr (k := .u8) (l := l0) rfl (.tmp 0) rfl rfl ?_
  rintro g1 w1 rfl s1 b1 e1
  refine box_arr (k := .u8) (l := l1) rfl (.tmp 1) rfl rfl ?_
  rintro g2 w2 hg2 s2 b2 e2
  rw [s1] at hg2; subst hg2
  have B1 := hid (b1.below e2 (by omega)); have B2 := hid b2; have E2 := hid (e1.trans (e2.mono (by omega)))
  have S2 : w.heap.size + 2 ≤ w2.heap.size := by omega
  clear b1 b2 e1 e2 s1 s2
  go_wp2_with (first
    | (with_reducible refine halt_op (some 10) (.load _ _) (fun K hK => ?_)))
  refine go_on hK ?_; clear hK
  refine load_arr digestT (l := l0) rfl (.tmp 2) rfl rfl (unhid B1) Q0.out ?_
  go_wp2_with fail
  refine (Digits_any l0 _ Q0.out F0.out).mono ?_
  rintro e w3 ⟨ga, rfl, hga, ba, e3⟩
  have B1' := hid ((unhid B1).below e3 (by omega)); have B2' := hid ((unhid B2).below e3 (by omega)); have Ba := hid ba; have E3 := hid ((unhid E2).trans (e3.mono (by omega)))
  have S3 : w.heap.size + 2 ≤ w3.heap.size := by have := e3.size; omega
  have Lga : ga < w3.heap.size := ba.lt'
  clear ba e3 B1 B2 E2
  go_wp2_with (first
    | (with_reducible refine halt_op (some 12) (.load _ _) (fun K hK => ?_)))
  refine go_on hK ?_; clear hK
  refine load_arr digestT (l := l1) rfl (.tmp 3) rfl rfl (unhid B2') Q1.out ?_
  go_wp2_with fail
  refine (Digits_any l1 _ Q1.out F1.out).mono ?_
  rintro e w4 ⟨gb, rfl, hgb, bb, e4⟩
  have B1 := hid ((unhid B1').below e4 (by omega)); have B2 := hid ((unhid B2').below e4 (by omega)); have BA := hid ((unhid Ba).below e4 Lga); have BB := hid bb; have E4 := hid ((unhid E3).trans (e4.mono (by omega)))
  clear bb e4 B1' B2' E3 Ba
  go_wp2_with fail
  go_loopw [7, 8, 9] (fun v7 v8 v9 wr => ∃ (k n : Nat), k ≤ 67 ∧ v9 = .int .i64 k ∧ v7 = .bool (lessTo l0 l1 k) ∧ v8 = .bool (lessTo l1 l0 k) ∧ Hid (wr = w4.drewN n)) (fun _ _ v9 _ => 67 - (intOf v9).toNat)
  case atStart => exact ⟨0, 0, Nat.zero_le _, rfl, rfl, rfl, rfl⟩
  case round =>
    obtain ⟨k, n, hk, rfl, rfl, rfl, HW⟩ := hrel
    have hw := HW.out
    subst hw
    by_cases hlt : k < 67
    · obtain ⟨x, hx⟩ : ∃ x, x = Kd.dig l0 k := ⟨_, rfl⟩
      obtain ⟨y, hy⟩ : ∃ y, y = Kd.dig l1 k := ⟨_, rfl⟩
      have bx := dig_range l0 F0.out k
      have by_ := dig_range l1 F1.out k
      have cx : w4.cell? ⟨ga, k, none⟩ = some (.int .i64 x) := by rw [(unhid BA).cell, digs_get l0 k hlt, hx]
      have cy : w4.cell? ⟨gb, k, none⟩ = some (.int .i64 y) := by rw [(unhid BB).cell, digs_get l1 k hlt, hy]
      have l1' : Hid (lessTo l0 l1 (k + 1) = (lessTo l0 l1 k || decide (x < y))) := by rw [hx, hy]; exact lessTo_succ _ _ _
      have l2' : Hid (lessTo l1 l0 (k + 1) = (lessTo l1 l0 k || decide (y < x))) := by rw [hx, hy]; exact lessTo_succ _ _ _
      rw [← hx] at bx
      rw [← hy] at by_
      clear hx hy
      have i1 : (0 : Int) ≤ (k : Int) := by omega
      have i2 : (k : Int) < 67 := by omega
      rcases (show x < y ∨ x = y ∨ y < x by omega) with hxy | hxy | hxy
      · go_wp2
        go_quiet (fail)
        go_wp2
        go_quiet (fail)
        go_wp2
        go_roundw
        case rel => exact ⟨k + 1, _, by omega, by go_num, by rw [l1'.out]; simp [hxy], by rw [l2'.out]; simp; omega, rfl⟩
        case measure => simp [intOf]; omega
      · subst hxy
        go_wp2
        go_quiet (fail)
        go_wp2
        go_quiet (fail)
        go_wp2
        go_roundw
        case rel => exact ⟨k + 1, _, by omega, by go_num, by rw [l1'.out]; simp, by rw [l2'.out]; simp, rfl⟩
        case measure => simp [intOf]; omega
      · go_wp2
        go_quiet (fail)
        go_wp2
        go_quiet (fail)
        go_wp2
        go_roundw
        case rel => exact ⟨k + 1, _, by omega, by go_num, by rw [l1'.out]; simp; omega, by rw [l2'.out]; simp [hxy], rfl⟩
        case measure => simp [intOf]; omega
    · have hk67 : k = 67 := by omega
      subst hk67
      by_cases he : l0 = l1
      · have e1 : lessTo l0 l1 67 = false := by rw [he]; exact lessTo_self _ _
        have e2 : lessTo l1 l0 67 = false := by rw [he]; exact lessTo_self _ _
        rw [e1, e2]
        have HE := hid he
        clear e1 e2 he
        go_wp2_with (first
          | (with_reducible refine halt_op (some 56) (.load _ _) (fun K hK => ?_)))
        refine go_on hK ?_; clear hK
        refine load_arr digestT (l := l0) rfl (.tmp 2) rfl rfl (unhid B1) Q0.out ?_
        refine load_arr digestT (l := l1) rfl (.tmp 3) rfl rfl (unhid B2) Q1.out ?_
        refine eql_arr digestT noEqGuard rfl (.tmp 56) (.tmp 57) _ rfl rfl rfl Q0.out Q1.out (b := true) (by simp [HE.out]) ?_
        go_wp2_with (first
          | (with_reducible refine halt_op (some 63) (.load _ _) (fun K hK => ?_)))
        refine go_on hK ?_; clear hK
        refine load_arr digestT (l := l0) rfl (.tmp 2) rfl rfl (unhid B1) Q0.out ?_
        refine load_arr digestT (l := l1) rfl (.tmp 3) rfl rfl (unhid B2) Q1.out ?_
        refine eql_arr digestT noEqGuard rfl (.tmp 63) (.tmp 64) _ rfl rfl rfl Q0.out Q1.out (b := true) (by simp [HE.out]) ?_
        go_wp2
        go_ret
        exact ⟨rfl, (unhid E4).drewN _⟩
      · have e1 : lessTo l0 l1 67 = true := lessTo_ne _ _ Q0.out Q1.out F0.out F1.out he
        have e2 : lessTo l1 l0 67 = true := lessTo_ne _ _ Q1.out Q0.out F1.out F0.out (fun h => he h.symm)
        rw [e1, e2]
        have HE := hid he
        clear e1 e2 he
        go_wp2_with (first
          | (with_reducible refine halt_op (some 56) (.load _ _) (fun K hK => ?_)))
        refine go_on hK ?_; clear hK
        refine load_arr digestT (l := l0) rfl (.tmp 2) rfl rfl (unhid B1) Q0.out ?_
        refine load_arr digestT (l := l1) rfl (.tmp 3) rfl rfl (unhid B2) Q1.out ?_
        refine eql_arr digestT noEqGuard rfl (.tmp 56) (.tmp 57) _ rfl rfl rfl Q0.out Q1.out (b := false) (by simp [HE.out]) ?_
        go_wp2_with (first
          | (with_reducible refine halt_op (some 63) (.load _ _) (fun K hK => ?_)))
        refine go_on hK ?_; clear hK
        refine load_arr digestT (l := l0) rfl (.tmp 2) rfl rfl (unhid B1) Q0.out ?_
        refine load_arr digestT (l := l1) rfl (.tmp 3) rfl rfl (unhid B2) Q1.out ?_
        refine eql_arr digestT noEqGuard rfl (.tmp 63) (.tmp 64) _ rfl rfl rfl Q0.out Q1.out (b := false) (by simp [HE.out]) ?_
        go_wp2
        go_ret
        exact ⟨rfl, (unhid E4).drewN _⟩
theorem byL_of_wf {l : List Int} (h : ∀ z ∈ l, (Lit.int .u8 z).wf = true) : ByL l := fun z hz => by have := bounds_u8 (h z hz); omega
theorem keyApart_walk (l0 : List Int) (l1 : List Int) (w : World) (q0 : l0.length = 32) (f0 : ∀ z ∈ l0, (Lit.int .u8 z).wf = true) (q1 : l1.length = 32) (f1 : ∀ z ∈ l1, (Lit.int .u8 z).wf = true) :
    Calls Try.prog 4 #[.agg (l0.map (Value.int .u8)).toArray, .agg (l1.map (Value.int .u8)).toArray] w fun e w' => e = .returned (.bool true) ∧ Below w.heap.size w w' :=
  keyApart_core l0 l1 w q0 (byL_of_wf f0) q1 (byL_of_wf f1)
end Go.Proofs.Ytopddinpmiefjaa

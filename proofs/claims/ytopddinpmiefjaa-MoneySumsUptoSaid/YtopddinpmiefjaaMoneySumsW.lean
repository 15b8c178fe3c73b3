/- The walk of the law MoneySums. -/
import Derived.Test.YtopddinpmiefjaaSumW
namespace Go.Proofs.Ytopddinpmiefjaa
set_option linter.unusedVariables false
open Go.RowKit Go.Mny
theorem intsE : Elt Try.prog 27 3 1 8 := Elt.of Try.underlying27 (.int .i64 0) (by kernel_rfl) rfl (by decide)
theorem sum_good (A : Option Addr) (n c D : Nat) (l : List Int) (w : World) (h : Row w D 1 A n (l.map (Value.int .i64))) (hn : n ≤ 4611686018427387904) (hg : Mon.Good l) :
    Calls Try.prog 12 #[.slice A n c] w fun e w' => e = .returned (.tuple #[.int .i64 (Mon.tot l), .nilIface]) ∧ w = w' :=
  (sum_any A n c D l w h hn).mono fun e w' ⟨h1, h2⟩ => ⟨by rw [h1, Mon.sum_val l hg]; rfl, h2⟩
theorem sum_fact (g c D : Nat) (w : World) (h : Row w D 1 (some ⟨g, 0, none⟩) 2 ([2, 3].map (Value.int .i64))) :
    Calls Try.prog 12 #[.slice (some ⟨g, 0, none⟩) 2 c] w fun e w' => e = .returned (.tuple #[.int .i64 5, .nilIface]) ∧ w = w' :=
  sum_good _ 2 c D [2, 3] w h (by omega) ⟨by simp, by decide⟩
def SumBad (w : World) (e : Ending) (w' : World) : Prop := ∃ x : Int, e = .returned (.tuple #[.int .i64 0, .iface 22 (.int .i64 x)]) ∧ w = w'
theorem sum_bad (A : Option Addr) (n c D : Nat) (l : List Int) (w : World) (h : Row w D 1 A n (l.map (Value.int .i64))) (hn : n ≤ 4611686018427387904) (hg : ¬ Mon.Good l) :
    Calls Try.prog 12 #[.slice A n c] w (SumBad w) :=
  (sum_any A n c D l w h hn).mono fun e w' ⟨h1, h2⟩ => by
    have h0 : (Mon.sumGo 0 l).2 ≠ 0 := fun h => hg ((Mon.sum_iff l).1 h)
    refine ⟨(Mon.sumGo 0 l).2, ?_, h2⟩
    rw [h1, Mon.sum_err l 0 h0, errV, if_neg h0]
set_option maxHeartbeats 1000000 in
set_option maxRecDepth 100000 in
theorem moneySums_walk (A0 : Option Addr) (n0 c0 : Nat) (l0 : List Int) (A1 : Option Addr) (n1 c1 : Nat) (l1 : List Int) (w : World)
    (b0 : n0 ≤ c0) (g0 : c0 ≤ maxLen) (r0 : Row w w.heap.size 1 A0 n0 (l0.map (Value.int .i64))) (f0 : ∀ z ∈ l0, (Lit.int .i64 z).wf = true)
    (b1 : n1 ≤ c1) (g1 : c1 ≤ maxLen) (r1 : Row w w.heap.size 1 A1 n1 (l1.map (Value.int .i64))) (f1 : ∀ z ∈ l1, (Lit.int .i64 z).wf = true) (hb : (n0 + 1) + (n1 + 1) ≤ 1048576) :
    Calls Try.prog 5 #[.slice A0 n0 c0, .slice A1 n1 c1] w fun e w' => e = .returned (.bool true) ∧ Below w.heap.size w w' := by
  clear f0 f1 b0 b1 g0 g1
  have R0 := hid r0
  have R1 := hid r1
  clear r0 r1
  go_enter Try.func5, Try.ntmps5
  go_wp2_with fail
  refine (sum_fact _ 2 _ _ (Row.lit w _ _ 2 _ rfl rfl)).mono ?_
  rintro e w' ⟨rfl, rfl⟩
  go_wp2_with (at_builtin; refine halt_at (fun K hK => ?_))
  refine go_on hK ?_; clear hK
  refine app_new intsE rfl (.tmp 32) (.tmp 33) rfl rfl (Own.lit_at _ w.heap.size 3 1 0 _ #[] [] (by simp) (by simp) (by simp [maxLen]) rfl rfl) rfl ((unhid R0).below (by go_grown)) (ints_one _ _) (by simp [maxLen]; omega) (by omega) (by simp; omega) ?_
  intro A2 c2 w2 o2 g2 l2
  have hB2 : Below w.heap.size w w2 := Below.grown (w := (w.alloc _).alloc _) (by go_grown) g2 (by simp; omega) (by intro k hk; simp [at_] at hk; omega)
  have O2 := hid o2; have HB2 := hid hB2; clear o2 g2 l2 hB2
  go_wp2_with (at_builtin; refine halt_at (fun K hK => ?_))
  refine go_on hK ?_; clear hK
  refine app_step intsE rfl (.tmp 34) (.tmp 35) rfl rfl (unhid O2) rfl ((unhid R1).below (unhid HB2)) (ints_one _ _) (by simp [maxLen]; omega) (by omega) (unhid HB2).size ?_
  intro A3 c3 w3 o3 g3 l3
  obtain ⟨N, hN⟩ : ∃ N, N = n0 + n1 := ⟨_, rfl⟩
  rw [← hN] at o3 ⊢
  have hNb : N ≤ 1048576 := by omega
  have hB3 : Below w.heap.size w w3 := Below.grown (unhid HB2) g3 (unhid HB2).size (fun k hk => ((unhid O2).from_ k hk).1)
  have O3 : Own w3 w.heap.size 3 1 A3 N c3 ((l0 ++ l1).map (Value.int .i64)) := by rw [List.map_append]; exact o3
  have R3 : Row w3 w3.heap.size 1 A3 N ((l0 ++ l1).map (Value.int .i64)) := Row.of_own O3
  obtain ⟨L, hL⟩ : ∃ L, L = l0 ++ l1 := ⟨_, rfl⟩
  rw [← hL] at R3
  have HR3 := hid R3; have HB3 := hid hB3; have HN := hid hN; have HL := hid hL; clear o3 g3 l3 hB3 O3 O2 HB2 R3 hN hL
  go_wp2_with (at_builtin; refine halt_at (fun K hK => ?_))
  go_loopw [8, 9] (fun v8 v9 wr => ∃ (k : Nat) (A4 : Option Addr) (c4 : Nat), k ≤ N ∧ v9 = .int .i64 ((k : Int) - 1) ∧ v8 = .slice A4 (N - k) c4 ∧ Hid (Own wr w3.heap.size 3 1 A4 (N - k) c4 ((L.drop k).reverse.map (Value.int .i64))) ∧ Hid (Below w3.heap.size w3 wr))
    (fun _ v9 _ => (intOf v9 + 1).toNat)
  case atStart => exact ⟨N, none, 0, Nat.le_refl _, rfl, by rw [Nat.sub_self], by rw [Nat.sub_self, List.drop_of_length_le (by have := (unhid HR3).length; omega)]; exact Own.none _ _ _ _, Below.refl _ _⟩
  case round =>
    obtain ⟨k, A4, c4, hk, rfl, rfl, HO4, HB4⟩ := hrel
    cases k with
    | succ k =>
      have e1 : (((k + 1 : Nat) : Int) - 1) = (k : Int) := by omega
      rw [e1]
      have hlt : k < N := by omega
      have r3 := (unhid HR3).below (unhid HB4)
      obtain ⟨g, o, x, rfl, hg, hx, hc⟩ := r3.int hlt
      have bs := (unhid HB4).size
      clear r3 e1
      go_wp2_with (at_builtin; refine halt_at (fun K hK => ?_))
      refine go_on hK ?_; clear hK
      refine app_step intsE rfl (.tmp 44) (.tmp 49) rfl rfl ((unhid HO4).alloc _) rfl (Row.lit_at _ _ _ _ _ [.int .i64 x] rfl rfl rfl) (ints_one .i64 [x]) (by simp [maxLen]; omega) (by omega) (by simp; omega) ?_
      intro A5 c5 w5 o5 g5 l5
      have e2 : N - (k + 1) + 1 = N - k := by omega
      rw [e2] at o5 ⊢
      have b5 : Below w3.heap.size w3 w5 := Below.grown ((unhid HB4).alloc bs _) g5 (by simp; omega) (fun q hq => ((unhid HO4).from_ q hq).1)
      have d5 : (L.drop (k + 1)).reverse.map (Value.int .i64) ++ [.int .i64 x] = (L.drop k).reverse.map (Value.int .i64) := by
        have hk' : k < L.length := by have := (unhid HR3).length; omega
        have hx' := hx.out
        rw [List.getElem?_eq_getElem hk'] at hx'
        rw [List.drop_eq_getElem_cons hk', List.reverse_cons, List.map_append, Option.some.inj hx']; rfl
      rw [d5] at o5
      have HO5 := hid o5; have HB5 := hid b5
      clear o5 b5 d5 g5 l5 e2 hc hx HO4 HB4
      go_wp2_with (at_builtin; refine halt_at (fun K hK => ?_))
      go_roundw
      case rel => exact ⟨k, A5, c5, by omega, rfl, rfl, HO5, HB5⟩
      case measure => simp [intOf]
    | zero =>
      have e1 : (((0 : Nat) : Int) - 1) = -1 := by omega
      rw [e1]
      clear e1
      go_wp2_with (at_builtin; refine halt_at (fun K hK => ?_))
      have rAll := (unhid HR3).below (unhid HB4)
      have oB := unhid HO4
      rw [Nat.sub_zero, List.drop_zero] at oB
      rw [Nat.sub_zero]
      have rBack := Row.of_own oB
      have rA := ((unhid R0).below (unhid HB3)).below ((unhid HB4).mono (unhid HB3).size)
      have rB := ((unhid R1).below (unhid HB3)).below ((unhid HB4).mono (unhid HB3).size)
      have bEnd : Below w.heap.size w wr := (unhid HB3).trans ((unhid HB4).mono (unhid HB3).size)
      have hsz34 := (unhid HB4).size
      have HAll := hid rAll; have HBack := hid rBack; have HA := hid rA; have HBb := hid rB; have HEnd := hid bEnd
      clear rAll rBack rA rB bEnd oB HO4 HB4 HR3 HB3
      by_cases hG : Mon.Good L
      · obtain ⟨t, ht⟩ : ∃ t, t = Mon.tot L := ⟨_, rfl⟩
        obtain ⟨ta, hta⟩ : ∃ t, t = Mon.tot l0 := ⟨_, rfl⟩
        obtain ⟨tb, htb⟩ : ∃ t, t = Mon.tot l1 := ⟨_, rfl⟩
        have hG2 : Mon.Good (l0 ++ l1) := by rw [← HL.out]; exact hG
        obtain ⟨ga, gb⟩ := Mon.good_append hG2
        have hadd : t = ta + tb := by rw [ht, hta, htb, HL.out, Mon.tot_append]
        have c1 : ∀ A n c D W, Row W D 1 A n (L.map (Value.int .i64)) → n ≤ 4611686018427387904 → Calls Try.prog 12 #[.slice A n c] W fun e w' => e = .returned (.tuple #[.int .i64 t, .nilIface]) ∧ W = w' := by
          intro A n c D W h1 h2; rw [ht]; exact sum_good A n c D L W h1 h2 hG
        have c2 : ∀ A n c D W, Row W D 1 A n (L.reverse.map (Value.int .i64)) → n ≤ 4611686018427387904 → Calls Try.prog 12 #[.slice A n c] W fun e w' => e = .returned (.tuple #[.int .i64 t, .nilIface]) ∧ W = w' := by
          intro A n c D W h1 h2; rw [ht, ← Mon.tot_reverse]; exact sum_good A n c D _ W h1 h2 (Mon.good_reverse.2 hG)
        have c3' : ∀ A n c D W, Row W D 1 A n (l0.map (Value.int .i64)) → n ≤ 4611686018427387904 → Calls Try.prog 12 #[.slice A n c] W fun e w' => e = .returned (.tuple #[.int .i64 ta, .nilIface]) ∧ W = w' := by
          intro A n c D W h1 h2; rw [hta]; exact sum_good A n c D _ W h1 h2 ga
        have c4' : ∀ A n c D W, Row W D 1 A n (l1.map (Value.int .i64)) → n ≤ 4611686018427387904 → Calls Try.prog 12 #[.slice A n c] W fun e w' => e = .returned (.tuple #[.int .i64 tb, .nilIface]) ∧ W = w' := by
          intro A n c D W h1 h2; rw [htb]; exact sum_good A n c D _ W h1 h2 gb
        have c5' : ∀ W, Calls Try.prog 13 #[.int .i64 ta, .int .i64 tb] W fun e w' => e = .returned (.tuple #[.int .i64 t, .nilIface]) ∧ Below W.heap.size W w' := by
          intro W
          have g : Mon.Good [ta, tb] := by
            have n1 := Mon.tot_nonneg l0 ga.1; have n2 := Mon.tot_nonneg l1 gb.1; have h2 := hG.2
            refine ⟨by intro n hn; simp at hn; omega, ?_⟩
            have : Mon.tot [ta, tb] = ta + tb := by simp [Mon.tot]
            rw [this, ← hadd, ht]; exact h2
          refine (add_any ta tb W).mono fun e w' ⟨h1, h2⟩ => ⟨?_, h2⟩
          have e3 : Mon.tot [ta, tb] = t := by simp [Mon.tot]; omega
          rw [h1, Mon.sum_val _ g, e3]; rfl
        have le : Hid (∀ x ∈ L, x ≤ t) := by intro x hx; rw [ht]; exact Mon.le_tot L hG.1 x hx
        have hp := hG.2
        have ht0 := Mon.tot_nonneg L hG.1
        rw [← ht] at hp ht0
        have C1 := hid c1; have C2 := hid c2; have C3 := hid c3'; have C4 := hid c4'; have C5 := hid c5'
        clear c1 c2 c3' c4' c5' hG hG2 ga gb ht hta htb hadd hp
        refine (unhid C1 _ _ _ _ _ (unhid HAll) (by omega)).mono ?_
        rintro e w' ⟨rfl, rfl⟩
        go_wp2_with (at_builtin; refine halt_at (fun K hK => ?_))
        refine (unhid C2 _ _ _ _ _ (unhid HBack) (by omega)).mono ?_
        rintro e w' ⟨rfl, rfl⟩
        go_wp2_with (at_builtin; refine halt_at (fun K hK => ?_))
        refine (unhid C3 _ _ _ _ _ (unhid HA) (by omega)).mono ?_
        rintro e w' ⟨rfl, rfl⟩
        go_wp2_with (at_builtin; refine halt_at (fun K hK => ?_))
        refine (unhid C4 _ _ _ _ _ (unhid HBb) (by omega)).mono ?_
        rintro e w' ⟨rfl, rfl⟩
        go_wp2_with (at_builtin; refine halt_at (fun K hK => ?_))
        refine (unhid C5 _).mono ?_
        rintro e w' ⟨rfl, hb5⟩
        have HB5 := hid hb5; clear hb5
        go_wp2_with (at_builtin; refine halt_at (fun K hK => ?_))
        have HAll5 := hid ((unhid HAll).below ((unhid HB5).mono hsz34))
        go_loop [20] (fun v20 => ∃ k : Nat, k ≤ N ∧ v20 = .int .i64 k) (fun v20 => N - (intOf v20).toNat)
        case atStart => exact ⟨0, Nat.zero_le _, rfl⟩
        case round =>
          obtain ⟨k, hk, rfl⟩ := hrel
          by_cases hlt : k < N
          · obtain ⟨g, o, x, rfl, hg, hx, hc⟩ := (unhid HAll5).int hlt
            have hxt : x ≤ t := le.out x (List.mem_of_getElem? hx.out)
            go_wp2
            go_round
            case rel => exact ⟨k + 1, by omega, by go_num⟩
            case measure => simp [intOf]; omega
          · go_wp2
            go_ret
            exact ⟨rfl, (unhid HEnd).trans ((unhid HB5).mono (unhid HEnd).size)⟩
      · have hGr : ¬ Mon.Good L.reverse := fun h => hG (Mon.good_reverse.1 h)
        refine (sum_bad _ _ _ _ L _ (unhid HAll) (by omega) hG).mono ?_
        rintro e w' ⟨x1, rfl, rfl⟩
        go_wp2_with (at_builtin; refine halt_at (fun K hK => ?_))
        refine (sum_bad _ _ _ _ L.reverse _ (unhid HBack) (by omega) hGr).mono ?_
        rintro e w' ⟨x2, rfl, rfl⟩
        go_wp2_with (at_builtin; refine halt_at (fun K hK => ?_))
        refine (sum_any _ _ _ _ l0 _ (unhid HA) (by omega)).mono ?_
        rintro e w' ⟨rfl, rfl⟩
        go_wp2_with (at_builtin; refine halt_at (fun K hK => ?_))
        refine (sum_any _ _ _ _ l1 _ (unhid HBb) (by omega)).mono ?_
        rintro e w' ⟨rfl, rfl⟩
        go_wp2_with (at_builtin; refine halt_at (fun K hK => ?_))
        go_ret
        exact ⟨rfl, unhid HEnd⟩
end Go.Proofs.Ytopddinpmiefjaa

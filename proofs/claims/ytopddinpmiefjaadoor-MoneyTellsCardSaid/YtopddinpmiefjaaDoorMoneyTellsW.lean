/- The walks of the reference's Money, Total, MadeAt and of the law MoneyTells. -/
import Derived.Test.YtopddinpmiefjaaDoorSumW
import Derived.Test.YtopddinpmiefjaaDoorMoneyW
import Derived.Test.YtopddinpmiefjaaDoorTold
namespace Go.Proofs.YtopddinpmiefjaaDoor
set_option linter.unusedVariables false
open Go.RowKit Go.Mny
theorem rmoney_ok (n : Int) (w : World) (h0 : 0 ≤ n) (h1 : n ≤ 1125899906842624) : Calls Tryd.prog 6 #[.int .i64 n] w fun e w' => e = .returned (.bool true) ∧ w = w' := by
  go_enter Tryd.func6, Tryd.ntmps6
  go_wp2
  go_ret
  exact ⟨rfl, rfl⟩
theorem rmoney_no (n : Int) (w : World) (h : n < 0 ∨ 1125899906842624 < n) : Calls Tryd.prog 6 #[.int .i64 n] w fun e w' => e = .returned (.bool false) ∧ w = w' := by
  have hcase : n < 0 ∨ (0 ≤ n ∧ 1125899906842624 < n) := by omega
  clear h
  rcases hcase with h | ⟨h1, h2⟩
  · go_enter Tryd.func6, Tryd.ntmps6
    go_wp2
    go_ret
    exact ⟨rfl, rfl⟩
  · have hd : decide (n ≤ 1125899906842624) = false := by simp; omega
    go_enter Tryd.func6, Tryd.ntmps6
    go_wp2
    go_ret
    exact ⟨rfl, rfl⟩
def TotPost (w : World) (l : List Int) (e : Ending) (w' : World) : Prop := e = .returned (.tuple #[.int .i64 (Mon.sumGo 0 l).1, .int .i64 (Mon.sumGo 0 l).2]) ∧ w = w'
set_option maxHeartbeats 400000 in
theorem total_any (A : Option Addr) (n c D : Nat) (l : List Int) (w : World) (h : Row w D 1 A n (l.map (Value.int .i64))) (hn : n ≤ 9223372036854775807) :
    Calls Tryd.prog 9 #[.slice A n c] w (TotPost w l) := by
  have hl := h.length
  have H := hid h
  clear h
  go_enter Tryd.func9, Tryd.ntmps9
  go_wp2
  go_loop [4, 5] (fun v4 v5 => ∃ (k : Nat) (a : Int), k ≤ n ∧ v5 = .int .i64 k ∧ v4 = .int .i64 a ∧ 0 ≤ a ∧ a ≤ 1125899906842624 ∧ Hid (Mon.sumGo 0 l = Mon.sumGo a (l.drop k)))
    (fun _ v5 => n - (intOf v5).toNat)
  case atStart => exact ⟨0, 0, Nat.zero_le _, rfl, rfl, by omega, by omega, rfl⟩
  case round =>
    obtain ⟨k, a, hk, rfl, rfl, ha0, ha1, hs⟩ := hrel
    by_cases hlt : k < n
    · obtain ⟨g, o, x, rfl, hg, hx, hc⟩ := (unhid H).int hlt
      have hd : l.drop k = x :: l.drop (k + 1) := by
        have hk' : k < l.length := by omega
        rw [List.drop_eq_getElem_cons hk']
        have := hx.out
        rw [List.getElem?_eq_getElem hk'] at this
        rw [Option.some.inj this]
      have hs2 := hs.out
      rw [hd] at hs2
      have i1 : (0 : Int) ≤ (k : Int) := by omega
      have i2 : (k : Int) < (n : Int) := by omega
      clear hd hs
      by_cases hb : x < 0 ∨ 1125899906842624 < x
      · rw [Mon.sumGo_range _ _ _ hb] at hs2
        have HS := hid hs2
        clear hs2
        go_wp2_with fail
        refine (rmoney_no _ _ hb).mono ?_
        rintro e w' ⟨rfl, rfl⟩
        go_wp2_with fail
        go_ret2
        refine ⟨?_, rfl⟩
        rw [HS.out]; rfl
      · by_cases hf : 1125899906842624 < a + x
        · rw [Mon.sumGo_full _ _ _ hb hf] at hs2
          have HS := hid hs2
          clear hs2
          go_wp2_with fail
          refine (rmoney_ok _ _ (by omega) (by omega)).mono ?_
          rintro e w' ⟨rfl, rfl⟩
          go_wp2_with fail
          go_ret2
          refine ⟨?_, rfl⟩
          rw [HS.out]; rfl
        · rw [Mon.sumGo_next _ _ _ hb hf] at hs2
          have HS := hid hs2
          clear hs2
          go_wp2_with fail
          refine (rmoney_ok _ _ (by omega) (by omega)).mono ?_
          rintro e w' ⟨rfl, rfl⟩
          go_wp2_with fail
          go_round
          case rel => exact ⟨k + 1, a + x, by omega, by go_num, rfl, by omega, by omega, HS.out⟩
          case measure => simp [intOf]; omega
    · have HS : Hid (Mon.sumGo 0 l = (a, 0)) := by
        have := hs.out
        rw [List.drop_of_length_le (by omega)] at this
        exact this
      clear hs
      go_wp2
      go_ret2
      refine ⟨?_, rfl⟩
      rw [HS.out]; rfl
theorem half_pow (k : Nat) : 1073741824 / 2 ^ (k + 1) = 1073741824 / 2 ^ k / 2 := by rw [Nat.pow_succ, Nat.div_div_eq_div_mul]
theorem half_zero {k m : Nat} (h : 1073741824 / 2 ^ k = 0) (hm : k ≤ m) : 1073741824 / 2 ^ m = 0 := by
  obtain ⟨j, rfl⟩ : ∃ j, m = k + j := ⟨m - k, by omega⟩
  rw [Nat.pow_add, ← Nat.div_div_eq_div_mul, h]; simp
set_option maxHeartbeats 400000 in
theorem madeAt_any (h : Nat) (w : World) (hh : h ≤ 4611686018427387904) :
    Calls Tryd.prog 12 #[.int .i64 (h : Int)] w fun e w' => e = .returned (.int .i64 (Mon.made h : Nat)) ∧ w = w' := by
  go_enter Tryd.func12, Tryd.ntmps12
  go_wp2
  go_loop [3, 4] (fun v3 v4 => ∃ (k n : Nat), k ≤ h / 1000 ∧ v4 = .int .i64 k ∧ v3 = .int .i64 n ∧ n ≤ 1073741824 ∧ Hid (1073741824 / 2 ^ k = n)) (fun _ v4 => h / 1000 - (intOf v4).toNat)
  case atStart => exact ⟨0, 1073741824, Nat.zero_le _, rfl, rfl, Nat.le_refl _, by show _ = _; decide +kernel⟩
  case round =>
    obtain ⟨k, n, hk, rfl, rfl, hn, HN⟩ := hrel
    by_cases hlt : k < h / 1000 ∧ 0 < n
    · obtain ⟨h1, h2⟩ := hlt
      have t1 : (k : Int) < (h : Int) / 1000 := by omega
      have t2 : (0 : Int) < (n : Int) := by omega
      go_wp2
      go_round
      case rel => exact ⟨k + 1, n / 2, by omega, by go_num, by go_num, by omega, by show _ = _; rw [half_pow, HN.out]⟩
      case measure => simp [intOf]; omega
    · have HE : Hid (Mon.made h = n) := by
        show _ = _
        unfold Mon.made
        by_cases hz : n = 0
        · rw [half_zero (by rw [HN.out]; exact hz) hk]; exact hz.symm
        · rw [← HN.out, show h / 1000 = k by omega]
      by_cases h1 : k < h / 1000
      · have h2 : n = 0 := by omega
        subst h2
        have t1 : (k : Int) < (h : Int) / 1000 := by omega
        clear hlt
        go_wp2
        go_ret
        exact ⟨by rw [HE.out]; rfl, rfl⟩
      · have t1 : (h : Int) / 1000 ≤ (k : Int) := by omega
        clear hlt
        go_wp2
        go_ret
        exact ⟨by rw [HE.out]; rfl, rfl⟩
theorem supGoN_step (f n l : Nat) (hn : n ≠ 0) (hl : l ≠ 0) : Mon.supGo (f + 1) n l = n * min l 1000 + Mon.supGo f (n / 2) (l - 1000) := by
  simp only [Mon.supGo]
  rw [if_neg (by omega)]
theorem supGoN_end (f n l : Nat) (h : n = 0 ∨ l = 0) : Mon.supGo f n l = 0 := by
  cases f with
  | zero => rfl
  | succ f => simp only [Mon.supGo]; rw [if_pos (by omega)]
theorem made_thousand (j : Nat) : Mon.made (1000 * j) = 1073741824 / 2 ^ j := by unfold Mon.made; rw [Nat.mul_div_cancel_left j (by decide)]
set_option maxHeartbeats 4000000 in
set_option maxRecDepth 100000 in
theorem moneyTells_walk (A0 : Option Addr) (n0 c0 : Nat) (l0 : List Int) (a1 : Int) (a2 : Int) (a3 : Int) (w : World) (b0 : n0 ≤ c0) (g0 : c0 ≤ maxLen) (r0 : Row w w.heap.size 1 A0 n0 (l0.map (Value.int .i64))) (f0 : ∀ z ∈ l0, (Lit.int .i64 z).wf = true) (f1 : (Lit.int .i64 a1).wf = true) (f2 : (Lit.int .i64 a2).wf = true) (f3 : (Lit.int .i64 a3).wf = true)  (hH : Hdl w) :
    Calls Tryd.prog 3 #[.slice A0 n0 c0, .int .i64 a1, .int .i64 a2, .int .i64 a3] w fun e w' => e = .returned (.bool true) ∧ Below w.heap.size w w' := by
  have v3 := bounds_i64 f3
  have HR := hid r0; have HH := hid hH
  have hn0 : n0 ≤ 9223372036854775807 := by simp only [maxLen] at g0; omega
  clear r0 f0 f1 f2 f3 hH b0 g0
  obtain ⟨s, hs⟩ : ∃ s, Mon.sumGo 0 [a1, a2] = s := ⟨_, rfl⟩
  obtain ⟨s1, s2⟩ := s
  obtain ⟨u, hu⟩ : ∃ u, Mon.sumGo 0 l0 = u := ⟨_, rfl⟩
  obtain ⟨u1, u2⟩ := u
  obtain ⟨sv, hsv⟩ : ∃ v, errVal s2 = v := ⟨_, rfl⟩
  obtain ⟨uv, huv⟩ : ∃ v, errVal u2 = v := ⟨_, rfl⟩
  have T1 : Hid (∀ w' : World, Calls Tryd.prog 9 #[.slice (some ⟨w'.heap.size, 0, none⟩) 2 2] (w'.alloc (.cells #[.int .i64 a1, .int .i64 a2] 3)) fun e w'' => e = .returned (.tuple #[.int .i64 s1, .int .i64 s2]) ∧ w'.alloc (.cells #[.int .i64 a1, .int .i64 a2] 3) = w'') := hid fun w' => by
    refine (total_any _ 2 2 _ [a1, a2] _ (Row.lit w' _ _ 2 _ rfl rfl) (by omega)).mono fun e w'' h => ?_
    unfold TotPost at h
    rw [hs] at h; exact h
  have A1 : Hid (∀ w' : World, Calls Tryd.prog 10 #[.int .i64 a1, .int .i64 a2] w' fun e w'' => e = .returned (.tuple #[.int .i64 s1, sv]) ∧ Below w'.heap.size w' w'') := hid fun w' => by
    refine (add_any a1 a2 w').mono fun e w'' h => ?_
    rw [hs] at h; rw [← hsv]; exact h
  have E1 : Hid (∀ w' : World, Hdl w' → Calls Tryd.prog 7 #[sv, .int .i64 s2] w' fun e w'' => e = .returned (.bool true) ∧ Below w'.heap.size w' w'') := hid fun w' h => by
    have := error_any s2 s2 w' h
    rw [hsv] at this
    simpa using this
  have T2 : Hid (∀ w' : World, Below w.heap.size w w' → Calls Tryd.prog 9 #[.slice A0 n0 c0] w' fun e w'' => e = .returned (.tuple #[.int .i64 u1, .int .i64 u2]) ∧ w' = w'') := hid fun w' hb => by
    refine (total_any A0 n0 c0 _ l0 w' ((unhid HR).below hb) (by omega)).mono fun e w'' h => ?_
    unfold TotPost at h
    rw [hu] at h; exact h
  have A2 : Hid (∀ w' : World, Below w.heap.size w w' → Calls Tryd.prog 11 #[.slice A0 n0 c0] w' fun e w'' => e = .returned (.tuple #[.int .i64 u1, uv]) ∧ w' = w'') := hid fun w' hb => by
    refine (sum_any A0 n0 c0 _ l0 w' ((unhid HR).below hb) (by omega)).mono fun e w'' h => ?_
    unfold SumPost at h
    rw [hu] at h; rw [← huv]; exact h
  have E2 : Hid (∀ w' : World, Hdl w' → Calls Tryd.prog 7 #[uv, .int .i64 u2] w' fun e w'' => e = .returned (.bool true) ∧ Below w'.heap.size w' w'') := hid fun w' h => by
    have := error_any u2 u2 w' h
    rw [huv] at this
    simpa using this
  clear hs hu hsv huv hn0
  go_enter Tryd.func3, Tryd.ntmps3
  by_cases hc : 0 ≤ a1 ∧ a1 ≤ 1125899906842624
  case' pos =>
    go_wp2_with fail
    refine (rmoney_ok a1 _ (by omega) (by omega)).mono ?_
    rintro e w' ⟨rfl, rfl⟩
    go_wp2_with fail
    refine (check_ok a1 _ (by omega) (by omega)).mono ?_
    rintro e w' ⟨rfl, rfl⟩
    go_wp2_with fail
    refine (error_nil 0 _ (unhid HH)).mono ?_
    rintro e w1 ⟨rfl, hb1⟩
    rw [show ((0 : Int) == 0) = true from rfl]
  case' neg =>
    go_wp2_with fail
    refine (rmoney_no a1 _ (by omega)).mono ?_
    rintro e w' ⟨rfl, rfl⟩
    go_wp2_with fail
    refine (check_err a1 _ (by omega)).mono ?_
    rintro e w' ⟨rfl, rfl⟩
    go_wp2_with fail
    refine (error_err 2 2 (by decide) _ (unhid HH)).mono ?_
    rintro e w1 ⟨rfl, hb1⟩
    rw [show ((2 : Int) == 2) = true from rfl]
  all_goals
    have F1 := hid hb1
    clear hb1 hc
    go_wp2_with fail
    refine ((unhid T1) _).mono ?_
    rintro e w' ⟨rfl, rfl⟩
    go_wp2_with fail
    refine ((unhid A1) _).mono ?_
    rintro e w2 ⟨rfl, hb2⟩
    have F2 := hid ((unhid F1).trans (((Below.refl _ _).alloc (unhid F1).size _).trans (hb2.mono (by have := (unhid F1).size; simp; omega))))
    clear hb2 F1
    go_wp2_with fail
    refine ((unhid E1) _ ((unhid HH).of_below (unhid F2))).mono ?_
    rintro e w3 ⟨rfl, hb3⟩
    have F3 := hid ((unhid F2).trans (hb3.mono (unhid F2).size))
    clear hb3 F2
    go_wp2_with fail
    refine ((unhid T2) _ (unhid F3)).mono ?_
    rintro e w' ⟨rfl, rfl⟩
    go_wp2_with fail
    refine ((unhid A2) _ (unhid F3)).mono ?_
    rintro e w' ⟨rfl, rfl⟩
    go_wp2_with fail
    refine ((unhid E2) _ ((unhid HH).of_below (unhid F3))).mono ?_
    rintro e w4 ⟨rfl, hb4⟩
    have F4 := hid ((unhid F3).trans (hb4.mono (unhid F3).size))
    clear hb4 F3
    by_cases hh : 0 ≤ a3 ∧ a3 ≤ 1073741824
    · obtain ⟨ht, rfl⟩ := Int.eq_ofNat_of_zero_le hh.1
      have t1 : (0 : Int) ≤ (ht : Int) := by omega
      have t2 : (ht : Int) ≤ 1073741824 := by omega
      have hmi : madeI (ht : Int) = ((Mon.made ht : Nat) : Int) := by simp [madeI]
      have hsi : supI (ht : Int) = ((Mon.sup ht : Nat) : Int) := by simp [supI]
      have M1 := made_ok (ht : Int)
      have U1 := supply_ok (ht : Int)
      rw [hmi] at M1
      rw [hsi] at U1
      have HM1 := hid M1; have HU1 := hid U1
      have hsup := Mon.sup_le ht
      have hse : Mon.sup ht = Mon.supGo 31 1073741824 (ht + 1) := rfl
      obtain ⟨sp, hsp⟩ : ∃ sp, Mon.sup ht = sp := ⟨_, rfl⟩
      rw [hsp] at hsup hse HU1
      have HSE := hid hse
      obtain ⟨md, hmd⟩ : ∃ md, Mon.made ht = md := ⟨_, rfl⟩
      have MA := madeAt_any ht
      rw [hmd] at HM1 MA
      have HMA := hid MA
      clear hh v3 M1 U1 hmi hsi hse hsp hmd MA
      go_wp2_with fail
      refine ((unhid HMA) _ (by omega)).mono ?_
      rintro e w' ⟨rfl, rfl⟩
      go_wp2_with fail
      refine ((unhid HM1) _ (by omega) (by omega)).mono ?_
      rintro e w' ⟨rfl, rfl⟩
      go_wp2_with fail
      refine (error_nil 0 _ ((unhid HH).of_below (unhid F4))).mono ?_
      rintro e w5 ⟨rfl, hb5⟩
      have F5 := hid ((unhid F4).trans (hb5.mono (unhid F4).size))
      rw [show ((0 : Int) == 0) = true from rfl]
      clear hb5 F4
      go_wp2_with fail
      obtain ⟨wl, hwl⟩ : ∃ wl : World, wl = w5 := ⟨_, rfl⟩
      rw [← hwl] at F5
      rw [← hwl]
      clear hwl
      have hw : Hid (∀ w', Below wl.heap.size wl w' → Hdl w') := hid fun w' hb => ((unhid HH).of_below (unhid F5)).of_below hb
      go_loop [11, 15] (fun v11 v15 => ∃ (j a : Nat), v15 = .int .i64 ((1000 * j : Nat) : Int) ∧ v11 = .int .i64 (a : Int) ∧ j ≤ 31 ∧ Hid (a + Mon.supGo (31 - j) (1073741824 / 2 ^ j) (ht + 1 - 1000 * j) = sp) ∧ a ≤ 2147483648000) (fun _ v15 => 1000000000000 - (intOf v15).toNat)
      case atStart => exact ⟨0, 0, rfl, rfl, by decide, by show _ = _; rw [HSE.out]; simp, by decide⟩
      case round =>
        obtain ⟨j, a, rfl, rfl, hj, HS, ha⟩ := hrel
        obtain ⟨q, hq⟩ : ∃ q, 1073741824 / 2 ^ j = q := ⟨_, rfl⟩
        have hq2 : 1073741824 / 2 ^ (j + 1) = q / 2 := by rw [half_pow, hq]
        have hqb : q ≤ 1073741824 := by rw [← hq]; exact Nat.div_le_self 1073741824 _
        have hj2 : q ≠ 0 → j ≤ 30 := by
          intro h
          by_cases e : j = 31
          · subst e
            have : 1073741824 / 2 ^ 31 = 0 := by decide +kernel
            omega
          · omega
        have MJ := madeAt_any (1000 * j)
        rw [made_thousand, hq] at MJ
        have hs := HS.out
        rw [hq] at hs
        have HQ2 := hid hq2
        obtain ⟨x, hx⟩ : ∃ x, 1000 * j = x := ⟨_, rfl⟩
        rw [hx] at MJ hs
        rw [hx]
        have hxb : x ≤ 31000 := by omega
        have HMJ := hid MJ; have HX := hid hx
        clear HS MJ hx hq hq2
        by_cases hle : x ≤ ht
        · have t3 : (x : Int) ≤ (ht : Int) := by omega
          by_cases hq0 : q = 0
          · subst hq0
            obtain rfl : sp = a := by rw [supGoN_end _ _ _ (.inl rfl)] at hs; omega
            clear hs hj2
            by_cases hm : ht + 1 - x ≤ 1000
            · have t4 : (ht : Int) + 1 - (x : Int) ≤ 1000 := by omega
              clear hm
              go_wp2_with fail
              refine ((unhid HMJ) _ (by omega)).mono ?_
              rintro e w' ⟨rfl, rfl⟩
              go_wp2_with fail
              refine ((unhid HMJ) _ (by omega)).mono ?_
              rintro e w' ⟨rfl, rfl⟩
              go_wp2_with fail
              refine ((unhid HU1) _ (by omega) (by omega)).mono ?_
              rintro e w' ⟨rfl, rfl⟩
              go_wp2_with fail
              refine (error_nil 0 _ ((unhid HH).of_below (unhid F5))).mono ?_
              rintro e w6 ⟨rfl, hb6⟩
              have F6 := hid ((unhid F5).trans (hb6.mono (unhid F5).size))
              rw [show ((0 : Int) == 0) = true from rfl]
              clear hb6
              go_wp2_with fail
              go_ret
              exact ⟨rfl, unhid F6⟩
            · have t4 : 1000 < (ht : Int) + 1 - (x : Int) := by omega
              clear hm
              go_wp2_with fail
              refine ((unhid HMJ) _ (by omega)).mono ?_
              rintro e w' ⟨rfl, rfl⟩
              go_wp2_with fail
              refine ((unhid HMJ) _ (by omega)).mono ?_
              rintro e w' ⟨rfl, rfl⟩
              go_wp2_with fail
              refine ((unhid HU1) _ (by omega) (by omega)).mono ?_
              rintro e w' ⟨rfl, rfl⟩
              go_wp2_with fail
              refine (error_nil 0 _ ((unhid HH).of_below (unhid F5))).mono ?_
              rintro e w6 ⟨rfl, hb6⟩
              have F6 := hid ((unhid F5).trans (hb6.mono (unhid F5).size))
              rw [show ((0 : Int) == 0) = true from rfl]
              clear hb6
              go_wp2_with fail
              go_ret
              exact ⟨rfl, unhid F6⟩
          · have hj3 := hj2 hq0
            obtain ⟨fj, hfj⟩ : ∃ fj, 31 - j = fj + 1 := ⟨30 - j, by omega⟩
            have hfj2 : 31 - (j + 1) = fj := by omega
            rw [hfj, supGoN_step _ _ _ hq0 (by omega)] at hs
            have qp : (0 : Int) < (q : Int) := by omega
            have hne : ((q : Int) == 0) = false := by simp; omega
            by_cases hm : ht + 1 - x ≤ 1000
            · have t4 : (ht : Int) + 1 - (x : Int) ≤ 1000 := by omega
              have m1 : min (ht + 1 - x) 1000 = ht + 1 - x := by omega
              rw [m1] at hs
              obtain ⟨y, hy⟩ : ∃ y, ht + 1 - x = y := ⟨_, rfl⟩
              have hyi : (ht : Int) + 1 - (x : Int) = (y : Int) := by omega
              have hcast : ((q * y : Nat) : Int) = (y : Int) * (q : Int) := by rw [Int.natCast_mul, Int.mul_comm]
              rw [hy] at hs
              have hs3 : Hid (a + q * y + Mon.supGo (31 - (j + 1)) (1073741824 / 2 ^ (j + 1)) (ht + 1 - 1000 * (j + 1)) = sp) := by
                show _ = _
                rw [hfj2, HQ2.out, show ht + 1 - 1000 * (j + 1) = y - 1000 by have := HX.out; omega]
                omega
              have hb1 : 0 ≤ ((ht : Int) + 1 - (x : Int)) * (q : Int) := by rw [hyi, ← hcast]; omega
              have hb2 : (a : Int) + ((ht : Int) + 1 - (x : Int)) * (q : Int) ≤ 2147483648000 := by rw [hyi, ← hcast]; omega
              have HC : Hid (((ht : Int) + 1 - (x : Int)) * (q : Int) = ((q * y : Nat) : Int)) := by show _ = _; rw [hyi, hcast]
              have hay : a + q * y ≤ 2147483648000 := by omega
              clear hm m1 hy hyi hcast hs hfj hfj2 hj2
              go_wp2_with fail
              refine ((unhid HMJ) _ (by omega)).mono ?_
              rintro e w' ⟨rfl, rfl⟩
              go_wp2_with fail
              refine ((unhid HMJ) _ (by omega)).mono ?_
              rintro e w' ⟨rfl, rfl⟩
              go_wp2_with fail
              go_round
              case rel => exact ⟨j + 1, a + q * y, by congr 1; have := HX.out; omega, by rw [HC.out]; go_num, by omega, hs3, hay⟩
              case measure => simp [intOf]; omega
            · have t4 : 1000 < (ht : Int) + 1 - (x : Int) := by omega
              have m1 : min (ht + 1 - x) 1000 = 1000 := by omega
              rw [m1] at hs
              have hs3 : Hid (a + 1000 * q + Mon.supGo (31 - (j + 1)) (1073741824 / 2 ^ (j + 1)) (ht + 1 - 1000 * (j + 1)) = sp) := by
                show _ = _
                rw [hfj2, HQ2.out, show ht + 1 - 1000 * (j + 1) = ht + 1 - x - 1000 by have := HX.out; omega]
                omega
              have hay : a + 1000 * q ≤ 2147483648000 := by omega
              clear hm m1 hs hfj hfj2 hj2
              go_wp2_with fail
              refine ((unhid HMJ) _ (by omega)).mono ?_
              rintro e w' ⟨rfl, rfl⟩
              go_wp2_with fail
              refine ((unhid HMJ) _ (by omega)).mono ?_
              rintro e w' ⟨rfl, rfl⟩
              go_wp2_with fail
              go_round
              case rel => exact ⟨j + 1, a + 1000 * q, by congr 1; have := HX.out; omega, by go_num, by omega, hs3, hay⟩
              case measure => simp [intOf]; omega
        · have t3 : (ht : Int) < (x : Int) := by omega
          obtain rfl : sp = a := by rw [supGoN_end _ _ _ (.inr (by omega))] at hs; omega
          clear hs hj2 hle
          go_wp2_with fail
          refine ((unhid HU1) _ (by omega) (by omega)).mono ?_
          rintro e w' ⟨rfl, rfl⟩
          go_wp2_with fail
          refine (error_nil 0 _ ((unhid HH).of_below (unhid F5))).mono ?_
          rintro e w6 ⟨rfl, hb6⟩
          have F6 := hid ((unhid F5).trans (hb6.mono (unhid F5).size))
          rw [show ((0 : Int) == 0) = true from rfl]
          clear hb6
          go_wp2_with fail
          go_ret
          exact ⟨rfl, unhid F6⟩
    · have hcase : a3 < 0 ∨ (0 ≤ a3 ∧ 1073741824 < a3) := by omega
      clear hh
      have MK := hid (made_err a3)
      have UK := hid (supply_err a3)
      rcases hcase with h1 | ⟨h1, h2⟩
      all_goals
        go_wp2_with fail
        refine ((unhid MK) _ (by omega)).mono ?_
        rintro e w' ⟨rfl, rfl⟩
        go_wp2_with fail
        refine (error_err 2 2 (by decide) _ ((unhid HH).of_below (unhid F4))).mono ?_
        rintro e w5 ⟨rfl, hb5⟩
        have F5 := hid ((unhid F4).trans (hb5.mono (unhid F4).size))
        rw [show ((2 : Int) == 2) = true from rfl]
        clear hb5
        go_wp2_with fail
        go_loop [11, 15] (fun v11 v15 => v15 = .int .i64 0 ∧ v11 = .int .i64 0) (fun _ _ => 0)
        case atStart => exact ⟨rfl, rfl⟩
        case round =>
          obtain ⟨rfl, rfl⟩ := hrel
          go_wp2_with fail
          refine ((unhid UK) _ (by omega)).mono ?_
          rintro e w' ⟨rfl, rfl⟩
          go_wp2_with fail
          refine (error_err 2 2 (by decide) _ ((unhid HH).of_below (unhid F5))).mono ?_
          rintro e w6 ⟨rfl, hb6⟩
          have F6 := hid ((unhid F5).trans (hb6.mono (unhid F5).size))
          rw [show ((2 : Int) == 2) = true from rfl]
          clear hb6
          go_wp2_with fail
          go_ret
          exact ⟨rfl, unhid F6⟩
end Go.Proofs.YtopddinpmiefjaaDoor

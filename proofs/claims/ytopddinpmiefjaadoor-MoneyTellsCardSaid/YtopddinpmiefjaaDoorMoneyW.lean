/- Walks of money.times, Made, Supply. -/
import Derived.Test.YtopddinpmiefjaaDoorProg
import Derived.Test.YtopddinpmiefjaaDoorMoneyMath
import Derived.WalkKit
import Derived.WalkLawsBesides
import Derived.Lib.Hide
namespace Go.Proofs.YtopddinpmiefjaaDoor
open Go.RowKit
theorem times_any (h : Int) (w : World) (h0 : 0 ≤ h) (h1 : h ≤ 1073741824) :
    Calls Tryd.prog 24 #[.int .i64 h] w fun e w' => e = .returned (.int .i64 (min (h / 1000) 62)) ∧ w = w' := by
  rcases (show h / 1000 < 62 ∨ h / 1000 = 62 ∨ 62 < h / 1000 by omega) with hh | hh | hh
  · go_enter Tryd.func24, Tryd.ntmps24
    go_wp2
    go_ret
    exact ⟨by rw [Int.min_eq_left (by omega)]; rfl, rfl⟩
  · go_enter Tryd.func24, Tryd.ntmps24
    go_wp2
    go_ret
    exact ⟨by rw [hh]; rfl, rfl⟩
  · go_enter Tryd.func24, Tryd.ntmps24
    go_wp2
    go_ret
    exact ⟨by rw [Int.min_eq_right (by omega)]; rfl, rfl⟩
def madeI (h : Int) : Int := (Mon.made h.toNat : Nat)
def supI (h : Int) : Int := (Mon.sup h.toNat : Nat)
theorem madeI_eq (h : Int) (h0 : 0 ≤ h) (h1 : h ≤ 1073741824) : (1073741824 : Int) / 2 ^ (min (h / 1000) 62).toNat = madeI h := by
  obtain ⟨n, rfl⟩ := Int.eq_ofNat_of_zero_le h0
  unfold madeI Mon.made
  rw [Int.toNat_natCast]
  by_cases hh : n / 1000 ≤ 62
  · have e : (min ((n : Int) / 1000) 62).toNat = n / 1000 := by omega
    rw [e]; simp
  · have e : (min ((n : Int) / 1000) 62).toNat = 62 := by omega
    rw [e]
    have z : 1073741824 / 2 ^ (n / 1000) = 0 := Nat.div_eq_of_lt (Nat.lt_of_lt_of_le (show 1073741824 < 2 ^ 62 by decide) (Nat.pow_le_pow_right (by decide) (by omega)))
    rw [z]; decide
theorem made_ok (h : Int) (w : World) (h0 : 0 ≤ h) (h1 : h ≤ 1073741824) :
    Calls Tryd.prog 13 #[.int .i64 h] w fun e w' => e = .returned (.tuple #[.int .i64 (madeI h), .nilIface]) ∧ w = w' := by
  have e := Lib.hid (madeI_eq h h0 h1)
  go_enter Tryd.func13, Tryd.ntmps13
  go_wp2_with (go_at_call 24; refine (times_any _ _ (by omega) (by omega)).mono ?_; rintro e w' ⟨rfl, rfl⟩)
  go_ret2
  exact ⟨by rw [← e.out]; rfl, rfl⟩
theorem made_err (h : Int) (w : World) (h0 : h < 0 ∨ 1073741824 < h) :
    Calls Tryd.prog 13 #[.int .i64 h] w fun e w' => e = .returned (.tuple #[.int .i64 0, .iface 23 (.int .i64 2)]) ∧ w = w' := by
  rcases h0 with h0 | h0
  all_goals
    go_enter Tryd.func13, Tryd.ntmps13
    go_wp2
    go_ret2
    exact ⟨rfl, rfl⟩
theorem supply_err (h : Int) (w : World) (h0 : h < 0 ∨ 1073741824 < h) :
    Calls Tryd.prog 14 #[.int .i64 h] w fun e w' => e = .returned (.tuple #[.int .i64 0, .iface 23 (.int .i64 2)]) ∧ w = w' := by
  rcases h0 with h0 | h0
  all_goals
    go_enter Tryd.func14, Tryd.ntmps14
    go_wp2
    go_ret2
    exact ⟨rfl, rfl⟩
theorem supGo_step (f n : Nat) (l : Int) (hn : n ≠ 0) (hl : 0 < l) : Mon.supGo (f + 1) n l.toNat = n * min l.toNat 1000 + Mon.supGo f (n / 2) (l - 1000).toNat := by
  simp only [Mon.supGo]
  have e : l.toNat - 1000 = (l - 1000).toNat := by omega
  rw [if_neg (by omega), e]
theorem supGo_end (f n : Nat) (l : Int) (h : n = 0 ∨ l ≤ 0) : Mon.supGo f n l.toNat = 0 := by
  cases f with
  | zero => rfl
  | succ f => simp only [Mon.supGo]; rw [if_pos (by omega)]
theorem sup_eq (h : Int) (h0 : 0 ≤ h) : Mon.sup h.toNat = Mon.supGo 31 1073741824 (h + 1).toNat := by
  have e : (h + 1).toNat = h.toNat + 1 := by omega
  rw [e, Mon.sup]
set_option maxHeartbeats 400000 in
theorem supply_ok (h : Int) (w : World) (h0 : 0 ≤ h) (h1 : h ≤ 1073741824) :
    Calls Tryd.prog 14 #[.int .i64 h] w fun e w' => e = .returned (.tuple #[.int .i64 (supI h), .nilIface]) ∧ w = w' := by
  have T : Hid (∃ S : Nat, (S : Int) = supI h ∧ S = Mon.supGo 31 1073741824 (h + 1).toNat ∧ S ≤ 2147483648000) := by
    exact ⟨Mon.sup h.toNat, rfl, sup_eq h h0, Mon.sup_le _⟩
  go_enter Tryd.func14, Tryd.ntmps14
  go_wp2
  go_loop [4, 5, 6] (fun v4 v5 v6 => ∃ (f n a : Nat) (l : Int), v4 = .int .i64 a ∧ v5 = .int .i64 l ∧ v6 = .int .i64 n ∧ n < 2 ^ f ∧ n ≤ 1073741824 ∧ -1000 ≤ l ∧ l ≤ 1073741825 ∧
      Hid ((a : Int) + (Mon.supGo f n l.toNat : Nat) = supI h) ∧ a + Mon.supGo f n l.toNat ≤ 2147483648000) (fun _ _ v6 => (intOf v6).toNat)
  case atStart =>
    obtain ⟨S, e1, e2, e3⟩ := T.out
    refine ⟨31, 1073741824, 0, h + 1, rfl, rfl, rfl, by decide +kernel, by decide +kernel, by omega, by omega, ?_, by omega⟩
    have : (S : Int) = ((0 : Nat) : Int) + (Mon.supGo 31 1073741824 (h + 1).toNat : Nat) := by rw [e2]; simp
    exact (this.symm.trans e1)
  case round =>
    obtain ⟨f, n, a, l, rfl, rfl, rfl, hf, hn, hl0, hl1, hs, hb⟩ := hrel
    by_cases hc : n ≠ 0 ∧ 0 < l
    · obtain ⟨hn0, hl⟩ := hc
      obtain ⟨f', rfl⟩ : ∃ f', f = f' + 1 := ⟨f - 1, by cases f with | zero => simp at hf; omega | succ f => rfl⟩
      have hstep := supGo_step f' n l hn0 hl
      rw [hstep] at hb
      have hs' : Hid ((a : Int) + (n * min l.toNat 1000 + Mon.supGo f' (n / 2) (l - 1000).toNat : Nat) = supI h) := by rw [← hstep]; exact hs
      have hf' : n / 2 < 2 ^ f' := by rw [Nat.pow_succ] at hf; omega
      clear hstep hs
      have hnp : (0 : Int) < n := by omega
      by_cases hlt : l ≤ 1000
      · have m1 : min l.toNat 1000 = l.toNat := by omega
        rw [m1] at hb hs'
        have hcast : ((n * l.toNat : Nat) : Int) = (n : Int) * l := by rw [Int.natCast_mul]; congr 1; omega
        have hb1 : 0 ≤ (n : Int) * l := by rw [← hcast]; omega
        have hb2 : (a : Int) + (n : Int) * l ≤ 2147483648000 := by rw [← hcast]; omega
        have hcast' := Lib.hid hcast
        clear hcast m1
        go_wp2
        go_round
        case rel =>
          refine ⟨f', n / 2, a + n * l.toNat, l - 1000, ?_, by go_num, by go_num, hf', by omega, by omega, by omega, ?_, by omega⟩
          · rw [Int.natCast_add, hcast'.out]
          · have := hs'.out; show (_ : Int) = _; rw [← this]; omega
        case measure => simp [intOf]; omega
      · have m1 : min l.toNat 1000 = 1000 := by omega
        rw [m1] at hb hs'
        clear m1
        go_wp2
        go_round
        case rel =>
          refine ⟨f', n / 2, a + n * 1000, l - 1000, by go_num, by go_num, by go_num, hf', by omega, by omega, by omega, ?_, by omega⟩
          have := hs'.out; show (_ : Int) = _; rw [← this]; omega
        case measure => simp [intOf]; omega
    · have hend : (a : Int) = supI h := by
        have h2 := hs.out
        have e := supGo_end f n l (by omega)
        rw [e] at h2; omega
      have hend' := Lib.hid hend
      clear hend hs
      by_cases hn0 : n = 0
      · subst hn0
        go_wp2
        go_ret2
        exact ⟨by rw [← hend'.out]; rfl, rfl⟩
      · have hl : l ≤ 0 := by omega
        have hnp : (0 : Int) < n := by omega
        clear hc
        go_wp2
        go_ret2
        exact ⟨by rw [← hend'.out]; rfl, rfl⟩
end Go.Proofs.YtopddinpmiefjaaDoor

/- MoneyMade: whatever the height, the law returns true; no condition. -/
import Derived.Test.YtopddinpmiefjaaRows
import Derived.Test.YtopddinpmiefjaaMoneyW
import Derived.WalkKit
import Derived.ProofKit
import Derived.OpenShut
import Derived.ShutString
namespace Go.Proofs.Ytopddinpmiefjaa.moneyMade
open Go.ChangeShapes Go.WideShapes Go.ChangeAt Go.RowKit
open Go.ChangeMaps (open_string shut_string)
set_option linter.unusedVariables false      -- a walk need not use every 'w<i>' (that an integer argument fits its kind)

theorem made_bd (h : Int) : 0 ≤ madeI h ∧ madeI h ≤ 1073741824 ∧ madeI h ≤ supI h ∧ supI h < 2147483648000 := by
  have a := Mon.made_le h.toNat; have b := Mon.made_le_sup h.toNat; have c := Mon.sup_lt h.toNat
  unfold madeI supI; omega
theorem one_more (h : Int) (h0 : 0 < h) : supI h = supI (h - 1) + madeI h ∧ madeI h ≤ madeI (h - 1) := by
  obtain ⟨n, hn⟩ : ∃ n : Nat, h = n + 1 := ⟨(h - 1).toNat, by omega⟩
  subst hn
  have e1 : ((n : Int) + 1).toNat = n + 1 := by omega
  have e2 : ((n : Int) + 1 - 1).toNat = n := by omega
  have a := Mon.sup_succ n; have b := Mon.made_succ_le n
  unfold madeI supI; rw [e1, e2]; omega
theorem halves (h : Int) (h0 : 1000 ≤ h) : madeI h = madeI (h - 1000) / 2 := by
  have e := Mon.made_halves h.toNat (by omega)
  have e2 : (h - 1000).toNat = h.toNat - 1000 := by omega
  unfold madeI; rw [e, e2]; omega
theorem first (h : Int) (h0 : h < 1000) : madeI h = 1073741824 := by
  unfold madeI; rw [Mon.made_first _ (by omega)]; rfl
theorem sup_at_zero : supI 0 = madeI 0 := by unfold supI madeI; rw [Int.toNat_zero, Mon.sup_zero]
theorem own : ownKnob Try.prog.godebug = none := by kernel_rfl

/-! ### STEP 1: THE WALK: the Go text returns true. 'Grown w w'': the world has at most new blocks (Derived/RowKit3.lean). Part the cases AHEAD of 'go_enter' where a test parts the walk; take each callee by a contract of your own. -/
set_option maxRecDepth 100000 in
set_option maxHeartbeats 1000000 in
theorem walk (a0 : Int) (w0 : (Lit.int .i64 a0).wf = true) (w : World) :
    Calls Try.prog 6 #[.int .i64 a0] w fun e w' => e = .returned (.bool true) ∧ Grown w w' := by
  have f0 := first 0 (by omega)
  have mc : ∀ (x : Int) (W : World), 0 ≤ x → x ≤ 1073741824 → Calls Try.prog 14 #[.int .i64 x] W fun e w' => e = .returned (.tuple #[.int .i64 (madeI x), .nilIface]) ∧ W = w' := made_ok
  have zero : ∀ W : World, Calls Try.prog 14 #[.int .i64 0] W fun e w' => e = .returned (.tuple #[.int .i64 1073741824, .nilIface]) ∧ W = w' := fun W => by
    have := made_ok 0 W (by omega) (by omega); rw [f0] at this; exact this
  have Zero := Lib.hid zero
  clear zero f0 mc
  by_cases hr : a0 < 0 ∨ 1073741824 < a0
  · go_enter Try.func6, Try.ntmps6
    go_wp2_with fail
    refine (Zero.out _).mono ?_
    rintro e w' ⟨rfl, rfl⟩
    go_wp2_with fail
    refine (made_err _ _ hr).mono ?_
    rintro e w' ⟨rfl, rfl⟩
    go_wp2_with fail
    refine (supply_err _ _ hr).mono ?_
    rintro e w' ⟨rfl, rfl⟩
    go_wp2_with fail
    all_goals
      go_ret
      exact ⟨by first | rfl | (simp; omega), Grown.refl _⟩
  · have b0 := made_bd a0
    have hs0 : a0 = 0 → supI a0 = madeI a0 := by rintro rfl; exact sup_at_zero
    by_cases hz : a0 = 0
    · subst hz
      have hs := Lib.hid (hs0 rfl)
      have hs1 : supI 0 ≤ madeI 0 ∧ madeI 0 ≤ supI 0 := by rw [hs.out]; omega
      have f0 := first 0 (by omega)
      have hm1 : madeI 0 ≤ 1073741824 ∧ 1073741824 ≤ madeI 0 := by omega
      have F0 := Lib.hid f0
      clear hs0 f0
      go_enter Try.func6, Try.ntmps6
      go_wp2_with fail
      refine (Zero.out _).mono ?_
      rintro e w' ⟨rfl, rfl⟩
      go_wp2_with fail
      refine (Zero.out _).mono ?_
      rintro e w' ⟨rfl, rfl⟩
      go_wp2_with fail
      refine (supply_ok _ _ (by omega) (by omega)).mono ?_
      rintro e w' ⟨rfl, rfl⟩
      go_wp2_with fail
      go_ret
      exact ⟨by simp [hs.out, F0.out], Grown.refl _⟩
    · have hp : 0 < a0 := by omega
      have hle : a0 ≤ 1073741824 := by omega
      obtain ⟨o1, o2⟩ := one_more a0 hp
      have b1 := made_bd (a0 - 1)
      have o3 : supI a0 ≤ supI (a0 - 1) + madeI a0 := by omega
      have o4 : supI (a0 - 1) + madeI a0 ≤ supI a0 := by omega
      have hd0 : (a0 == 0) = false := by simpa using hz
      have hne : (supI a0 != supI (a0 - 1) + madeI a0) = false := by simpa using o1
      clear o1 hs0 hr hz
      by_cases hk : 1000 ≤ a0
      · have hh := halves a0 hk
        have b2 := made_bd (a0 - 1000)
        have h5 : madeI a0 ≤ madeI (a0 - 1000) / 2 := by omega
        have h6 : madeI (a0 - 1000) / 2 ≤ madeI a0 := by omega
        have HH := Lib.hid hh
        clear hh
        go_enter Try.func6, Try.ntmps6
        go_wp2_with fail
        refine (Zero.out _).mono ?_
        rintro e w' ⟨rfl, rfl⟩
        go_wp2_with fail
        refine (made_ok _ _ (by omega) (by omega)).mono ?_
        rintro e w' ⟨rfl, rfl⟩
        go_wp2_with fail
        refine (supply_ok _ _ (by omega) (by omega)).mono ?_
        rintro e w' ⟨rfl, rfl⟩
        go_wp2_with fail
        refine (made_ok _ _ (by omega) (by omega)).mono ?_
        rintro e w' ⟨rfl, rfl⟩
        go_wp2_with fail
        refine (supply_ok _ _ (by omega) (by omega)).mono ?_
        rintro e w' ⟨rfl, rfl⟩
        go_wp2_with fail
        refine (made_ok _ _ (by omega) (by omega)).mono ?_
        rintro e w' ⟨rfl, rfl⟩
        go_wp2_with fail
        go_ret
        exact ⟨by simp [HH.out], Grown.refl _⟩
      · have hh := first a0 (by omega)
        have h5 : madeI a0 ≤ 1073741824 := by omega
        have h6 : 1073741824 ≤ madeI a0 := by omega
        have HH := Lib.hid hh
        clear hh
        go_enter Try.func6, Try.ntmps6
        go_wp2_with fail
        refine (Zero.out _).mono ?_
        rintro e w' ⟨rfl, rfl⟩
        go_wp2_with fail
        refine (made_ok _ _ (by omega) (by omega)).mono ?_
        rintro e w' ⟨rfl, rfl⟩
        go_wp2_with fail
        refine (supply_ok _ _ (by omega) (by omega)).mono ?_
        rintro e w' ⟨rfl, rfl⟩
        go_wp2_with fail
        refine (made_ok _ _ (by omega) (by omega)).mono ?_
        rintro e w' ⟨rfl, rfl⟩
        go_wp2_with fail
        refine (supply_ok _ _ (by omega) (by omega)).mono ?_
        rintro e w' ⟨rfl, rfl⟩
        go_wp2_with fail
        go_ret
        exact ⟨by simp [HH.out], Grown.refl _⟩

/-! ### THE ROW's STEP: WRITTEN OUT: LEAVE IT -/
set_option maxRecDepth 100000 in
theorem lifted (os : Os) (started : os.Started) (H : Type) (enc : TypeId × Value → H) :
    ReturnsInHanded {} Try.checked os 6 .any (Rows.moneyMadeSpec.pre6 enc Try.prog Try.f6 Rows.moneyMadeRow.domain false) (Rows.moneyMadeSpec.post enc Try.prog Try.f6 false true false false) := by
  refine returnsInHanded_of_change (C := Try.checked) own started (by kernel_rfl) Try.func6
    (ChangeSpec.witness6 (enc := enc) (C := Try.checked) false ⟨#[], #[.int .i64 0], []⟩ 8 (by kernel_rfl) (by kernel_rfl) (by kernel_rfl) (by kernel_rfl)) ?_
  intro W base args ds gs before hval0 hW hcnd _
  have hval : ∀ (j : Nat) t v, Try.f6.params[j]? = some t → args[j]? = some v → Value.okWide Try.prog W .any base t v := hval0
  have hW' := hW
  obtain ⟨p, q, hA0, hV, rfl, hfz, hnd⟩ := hW
  have hA : DataW.TrodAll enc Try.prog W 0 (fun _ => true) true Try.f6.params.toList args.toList ds p := hA0
  rw [Try.params6] at hA hval
  obtain ⟨v0, vs0, d0, ds0, p0, q0, hargs, rfl, rfl, h0, r0⟩ := trodAll_cons hA
  obtain ⟨rfl, rfl, rfl⟩ := trodAll_nil r0
  obtain rfl : args = #[v0] := by cases args; simp_all
  obtain ⟨rfl, rfl⟩ := trodVars_none hV
  obtain ⟨a0, rfl, rfl, rfl, w0⟩ := open_int Try.underlying3 (hval 0 3 v0 rfl rfl) h0
  clear hA0 hval0
  simp only [List.append_nil] at hW'
  refine (walk a0 w0 W).mono fun e W' ⟨he, hg⟩ => ?_
  subst he
  exact ⟨_, rfl, post_of_same (pa := []) (pv := []) hW' (fun _ _ _ => (trodAll_cons_mk (shut_bool Try.underlying4 _) trodAll_mk0)) (fun sp _ => (trodAll_cons_mk (shut_int Try.underlying3 w0) trodAll_mk0)) (fun _ _ => rfl) rfl
    (hg.frame _) hg.2.1 (ok_one (by kernel_rfl) rfl (okWide_bool_mk Try.underlying4 _))⟩

theorem over : Rows.moneyMadeRow.holds Try.pinned (OpenSpec.ofChange Rows.moneyMadeSpec) :=
  OpenClaim.holds_of_wide 6 Try.f6 rfl rfl rfl rfl rfl rfl rfl ⟨rfl, rfl, rfl, rfl, rfl⟩ rfl rfl rfl rfl rfl (by kernel_rfl) Try.func6 (by kernel_rfl)
    (of_decide_eq_true (by kernel_rfl)) (by unfold Func.isWrapper; first | (rw [if_pos (by decide +kernel)]; kernel_rfl) | (rw [if_neg (by decide +kernel)]; exact ⟨rfl, rfl⟩))
    (fun os started H enc _ => lifted os started H enc)

/-- ████ THE STATEMENT ████ -/
theorem proved : Rows.MoneyMadeSaid :=
  over
#print axioms proved
end Go.Proofs.Ytopddinpmiefjaa.moneyMade

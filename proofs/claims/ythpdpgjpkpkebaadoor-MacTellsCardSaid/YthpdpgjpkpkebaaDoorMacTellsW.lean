/- The walk of the law MacTells. -/
import Derived.Test.YthpdpgjpkpkebaaDoorRefExpW
import Derived.Test.YthpdpgjpkpkebaaDoorTold
import Derived.Test.YthpdpgjpkpkebaaDoorNats
import Derived.Test.YthpdpgjpkpkebaaDoorBytesW
namespace Go.Proofs.YthpdpgjpkpkebaaDoor
set_option linter.unusedVariables false
open Go.RowKit Go.Mny
theorem noGuardM : Tryd.prog.eqGuardType Tryd.prog.depth 25 = false := by kernel_rfl
def z32m : List Nat := List.replicate 32 0
set_option maxRecDepth 100000 in
theorem mac_factM : macN [] [] ≠ z32m := by decide +kernel
set_option maxHeartbeats 8000000 in
set_option maxRecDepth 100000 in
theorem macTells_walk (A0 : Option Addr) (n0 c0 : Nat) (l0 : List Int) (A1 : Option Addr) (n1 c1 : Nat) (l1 : List Int) (a2 : Int) (w : World) (b0 : n0 ≤ c0) (g0 : c0 ≤ maxLen) (r0 : Row w w.heap.size 1 A0 n0 (l0.map (Value.int .u8))) (f0 : ∀ z ∈ l0, (Lit.int .u8 z).wf = true) (b1 : n1 ≤ c1) (g1 : c1 ≤ maxLen) (r1 : Row w w.heap.size 1 A1 n1 (l1.map (Value.int .u8))) (f1 : ∀ z ∈ l1, (Lit.int .u8 z).wf = true) (f2 : (Lit.int .i64 a2).wf = true) (rb0 : n0 * 1 ≤ 140737488351232) (rb1 : n1 * 1 ≤ 140737488351232) (hL : Laid w) (h0 : 0 < w.heap.size) (hH : Hdl w) :
    Calls Tryd.prog 7 #[.slice A0 n0 c0, .slice A1 n1 c1, .int .i64 a2] w fun e w' => e = .returned (.bool true) ∧ Below w.heap.size w w' := by
  obtain ⟨key, rfl, k8⟩ := nats_of f0
  obtain ⟨b, rfl, b8⟩ := nats_of f1
  have v2 := bounds_i64 f2
  have HR := hid (show Row w w.heap.size 1 A0 n0 (bytes key) from r0); have HR' := hid (show Row w w.heap.size 1 A1 n1 (bytes b) from r1); have HL := hid hL; have K8 := hid k8; have B8' := hid b8; have HH := hid hH
  have hn0 : n0 ≤ 140737488351232 := by omega
  have hn1 : n1 ≤ 140737488351232 := by omega
  clear r0 r1 f0 f1 f2 hL k8 b8 rb0 rb1 b0 b1 g0 g1 hH
  go_enter Tryd.func7, Tryd.ntmps7
  go_wp2_with fail
  refine (mac_any [] [] none none 0 0 0 0 0 _ (Row.nil _ _ _ _) (Row.nil _ _ _ _) (Nat.zero_le _) (by omega) (by omega) B8.nil B8.nil (unhid HL) h0).mono ?_
  rintro e w1 ⟨rfl, hb1⟩
  have E1 := hid hb1
  clear hb1
  go_wp2_with (with_reducible refine halt_op (some 7) (.alloc _) (fun K hK => ?_))
  refine go_on hK ?_; clear hK
  refine alloc_arr digT rfl rfl ?_
  rintro g7 w2 hg7 s2 b2 e2
  refine store_arr digT (l := up (macN [] [])) rfl (.tmp 7) (.tmp 14) rfl rfl rfl (by rw [up_len, macN_len]) b2 (by simp [cellsOf]) ?_
  intro w3 b3 g3
  have e3 : Below g7 w1 w3 := Below.grown (by rw [hg7]; rw [hg7] at e2; exact e2) g3 (by omega) (fun q hq => by injection hq with hq; omega)
  have E3 := hid ((unhid E1).trans (e3.mono (by have := (unhid E1).size; omega)))
  have B3 := hid b3
  clear b2 e2 b3 g3 e3 hg7 s2 E1
  go_wp2_with (with_reducible refine halt_op (some 15) (.load _ _) (fun K hK => ?_))
  refine go_on hK ?_; clear hK
  refine load_arr digT (l := up (macN [] [])) rfl (.tmp 7) rfl rfl (unhid B3) (by rw [up_len, macN_len]) ?_
  go_wp2_with (with_reducible refine halt_op (some 17) (.binOp _ _ _ _ _) (fun K hK => ?_))
  refine go_on hK ?_; clear hK
  refine eql_arr digT (l1 := up (macN [] [])) (l2 := up z32m) (b := false) noGuardM rfl (.tmp 15) (.tmp 16) 25 rfl rfl rfl (by rw [up_len, macN_len]) rfl (by
    have : ¬ (up (macN [] []) = up z32m) := fun h => mac_factM (up_inj h)
    simp [this]) ?_
  clear B3
  go_wp2_with fail
  refine (mac_any key b A0 A1 n0 c0 n1 c1 w.heap.size _ ((unhid HR).below (unhid E3)) ((unhid HR').below (unhid E3)) (unhid E3).size (by omega) (by omega) K8.out B8'.out ((unhid HL).below (unhid E3) h0) (by have := (unhid E3).size; omega)).mono ?_
  rintro e w4 ⟨rfl, hb4⟩
  have E4 := hid ((unhid E3).trans (hb4.mono (unhid E3).size))
  clear hb4 E3
  go_wp2_with fail
  refine (rmac_any key b A0 A1 n0 c0 n1 c1 w.heap.size _ ((unhid HR).below (unhid E4)) ((unhid HR').below (unhid E4)) (unhid E4).size (by omega) (by omega) K8.out B8'.out).mono ?_
  rintro e w5 ⟨rfl, hb5⟩
  have E5 := hid ((unhid E4).trans (hb5.mono (unhid E4).size))
  clear hb5 E4
  obtain ⟨M, hM⟩ : ∃ M, macN key b = M := ⟨_, rfl⟩
  have ML : Hid ((up M).length = 32) := hid (by rw [← hM, up_len, macN_len])
  rw [hM]
  clear hM
  go_wp2_with (with_reducible refine halt_op (some 25) (.binOp _ _ _ _ _) (fun K hK => ?_))
  refine go_on hK ?_; clear hK
  refine neq_arr digT (l1 := up M) (l2 := up M) (b := false) noGuardM rfl (.tmp 21) (.tmp 24) 25 rfl rfl rfl ML.out ML.out (by simp) ?_
  by_cases hr : a2 < 0 ∨ 2000 < a2
  case' pos =>
    have NO := hid (fun w' : World => expand_no A0 A1 n0 c0 n1 c1 a2 w' hr)
    have hcase : a2 < 0 ∨ (0 ≤ a2 ∧ 2000 < a2) := by omega
    clear hr
    rcases hcase with h | ⟨h1, h2⟩
    all_goals
      go_wp2_with fail
      refine ((unhid NO) _).mono ?_
      rintro e w' ⟨rfl, rfl⟩
      go_wp2_with fail
      refine (error_err 2 2 (by decide) _ ((unhid HH).of_below (unhid E5))).mono ?_
      rintro e w6 ⟨rfl, hb6⟩
      rw [show ((2 : Int) == 2) = true from rfl]
      have E6 := hid ((unhid E5).trans (hb6.mono (unhid E5).size))
      clear hb6 E5
      go_wp2_with fail
      refine (bytes_any none none 0 0 0 0 0 0 [] [] _ (Row.nil _ _ _ _) (Row.nil _ _ _ _) (by decide) (by decide)).mono ?_
      rintro e w7 ⟨kk, rfl, hw7⟩
      have F7 : Hid (Below w.heap.size w w7) := hid (by rw [← hw7]; exact (unhid E6).drewN kk)
      rw [show decide (([] : List Int) = []) = true from rfl]
      clear hw7 E6
  case' neg =>
    obtain ⟨p, rfl⟩ := Int.eq_ofNat_of_zero_le (show 0 ≤ a2 by omega)
    have h1 : (0 : Int) ≤ (p : Int) := by omega
    have h2 : (p : Int) ≤ 2000 := by omega
    clear hr
    go_wp2_with fail
    refine (rexp_any key b A0 A1 n0 c0 n1 c1 w.heap.size p _ ((unhid HR).below (unhid E5)) ((unhid HR').below (unhid E5)) (unhid E5).size (by omega) (by omega) K8.out B8'.out (by omega)).mono ?_
    rintro e w6 ⟨AX, cX, rfl, rX, hb6⟩
    have E6 := hid ((unhid E5).trans (hb6.mono (unhid E5).size)); have RX := hid rX
    clear hb6 rX E5
    go_wp2_with fail
    refine (expand_yes key b A0 A1 n0 c0 n1 c1 w.heap.size p _ ((unhid HR).below (unhid E6)) ((unhid HR').below (unhid E6)) (unhid E6).size (by omega) (by omega) K8.out B8'.out (by omega) ((unhid HL).below (unhid E6) h0) (by have := (unhid E6).size; omega)).mono ?_
    rintro e w7 ⟨AY, rfl, rY, hb7⟩
    have E7 := hid ((unhid E6).trans (hb7.mono (unhid E6).size)); have RY := hid rY; have RX7 := hid ((unhid RX).below hb7)
    have s7 := hb7.size
    clear hb7 rY RX E6
    go_wp2_with fail
    refine (error_nil 0 _ ((unhid HH).of_below (unhid E7))).mono ?_
    rintro e w8 ⟨rfl, hb8⟩
    rw [show ((0 : Int) == 0) = true from rfl]
    have E8 := hid ((unhid E7).trans (hb8.mono (unhid E7).size)); have RY8 := hid ((unhid RY).below hb8); have RX8 := hid ((unhid RX7).below (hb8.mono s7))
    clear hb8 RY RX7 E7
    go_wp2_with fail
    refine (bytes_any AY AX p p p cX _ _ (up (expN key b p)) (up (expN key b p)) _ (unhid RY8) (unhid RX8) (by omega) (by omega)).mono ?_
    rintro e w9 ⟨kk, rfl, hw9⟩
    have F7 : Hid (Below w.heap.size w w9) := hid (by rw [← hw9]; exact (unhid E8).drewN kk)
    rw [show decide (up (expN key b p) = up (expN key b p)) = true by simp]
    clear hw9 E8 RX8 RY8
  all_goals
    go_wp2_with fail
    go_ret
    exact ⟨by simp, unhid F7⟩
end Go.Proofs.YthpdpgjpkpkebaaDoor

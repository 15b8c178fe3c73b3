/- The walk of mac.Expand. -/
import Derived.Test.YthpdpgjpkpkebaaDoorMacW
namespace Go.Proofs.YthpdpgjpkpkebaaDoor
set_option linter.unusedVariables false
open Go.RowKit Go.Mny
def tN (key info : List Nat) : Nat → List Nat
  | 0 => []
  | j + 1 => macN key (tN key info j ++ info ++ [j + 1])
def outN (key info : List Nat) : Nat → List Nat
  | 0 => []
  | j + 1 => outN key info j ++ tN key info (j + 1)
def expN (key info : List Nat) (n : Nat) : List Nat := (outN key info ((n + 31) / 32)).take n
theorem outN_len (key info : List Nat) : ∀ j, (outN key info j).length = 32 * j
  | 0 => rfl
  | j + 1 => by rw [outN, List.length_append, outN_len key info j, tN, macN_len]; omega
theorem outN_prefix (key info : List Nat) (i : Nat) : ∀ j, outN key info i <+: outN key info (i + j)
  | 0 => List.prefix_refl _
  | j + 1 => (outN_prefix key info i j).trans (by rw [← Nat.add_assoc]; exact List.prefix_append _ _)
theorem expN_len (key info : List Nat) (n : Nat) : (expN key info n).length = n := by
  rw [expN, List.length_take, outN_len]; omega
theorem expN_prefix (key info : List Nat) {m n : Nat} (h : m ≤ n) : expN key info m = (expN key info n).take m := by
  unfold expN
  rw [List.take_take, Nat.min_eq_left h]
  obtain ⟨t, ht⟩ := outN_prefix key info ((m + 31) / 32) ((n + 31) / 32 - (m + 31) / 32)
  rw [show (m + 31) / 32 + ((n + 31) / 32 - (m + 31) / 32) = (n + 31) / 32 by omega] at ht
  rw [← ht, List.take_append_of_le_length (by rw [outN_len]; omega)]
theorem tN_ok (key info : List Nat) : ∀ j, B8 (tN key info j) ∧ (tN key info j).length ≤ 32
  | 0 => ⟨B8.nil, Nat.zero_le _⟩
  | j + 1 => ⟨macN_B8 _ _, by rw [tN, macN_len]; exact Nat.le_refl _⟩
theorem expand_no (A A' : Option Addr) (n c n' c' : Nat) (k : Int) (w : World) (hk : k < 0 ∨ 2000 < k) :
    Calls Tryd.prog 16 #[.slice A n c, .slice A' n' c', .int .i64 k] w fun e w' => e = .returned (.tuple #[.slice none 0 0, .iface 42 (.int .i64 2)]) ∧ w = w' := by
  rcases hk with hk | hk
  · go_enter Tryd.func16, Tryd.ntmps16
    go_wp2
    go_ret2
    exact ⟨rfl, rfl⟩
  · have h0 : ¬ k < 0 := by omega
    go_enter Tryd.func16, Tryd.ntmps16
    go_wp2
    go_ret2
    exact ⟨rfl, rfl⟩
def Expd (key info : List Nat) (k : Nat) (w : World) (e : Ending) (w' : World) : Prop :=
  ∃ A2, e = .returned (.tuple #[.slice A2 k k, .nilIface]) ∧ Row w' w'.heap.size 1 A2 k (bytes (expN key info k)) ∧ Below w.heap.size w w'
set_option maxHeartbeats 4000000 in
set_option maxRecDepth 100000 in
theorem expand_yes (key info : List Nat) (A A' : Option Addr) (n c n' c' D k : Nat) (w : World) (hr : Row w D 1 A n (bytes key)) (hr' : Row w D 1 A' n' (bytes info)) (hD : D ≤ w.heap.size) (hn : n ≤ 140737488355000) (hn' : n' ≤ 140737488351232) (k8 : B8 key) (b8 : B8 info) (hk : k ≤ 2000) (hL : Laid w) (h0 : 0 < w.heap.size) :
    Calls Tryd.prog 16 #[.slice A n c, .slice A' n' c', .int .i64 k] w (Expd key info k w) := by
  have hil : info.length = n' := by have := hr'.len; rw [bytes_len] at this; omega
  have HR := hid hr; have HR' := hid hr'; have HL := hid hL; have K8 := hid k8; have B8' := hid b8; have HIL := hid hil
  clear hr hr' hL k8 b8 hil
  go_enter Tryd.func16, Tryd.ntmps16
  go_wp2_with fail
  go_loopw [8, 9, 10] (fun v8 v9 v10 wr => ∃ (j : Nat) (AO AT : Option Addr) (cO cT : Nat), 32 * j < k + 32 ∧ v10 = .int .u8 ((j : Int) + 1) ∧ v8 = .slice AO (32 * j) cO ∧ v9 = .slice AT (tN key info j).length cT ∧ Hid (Own wr w.heap.size 5 1 AO (32 * j) cO (bytes (outN key info j))) ∧ Hid (Row wr wr.heap.size 1 AT (tN key info j).length (bytes (tN key info j))) ∧ Hid (Below w.heap.size w wr)) (fun v8 _ _ _ => 3000 - (match v8 with | .slice _ q _ => q | _ => 0))
  case atStart => exact ⟨0, none, none, 0, 0, by omega, rfl, rfl, rfl, hid (Own.none _ _ _ _), hid (Row.nil _ _ _ _), hid (Below.refl _ _)⟩
  case round =>
    obtain ⟨j, AO, AT, cO, cT, hj, rfl, rfl, rfl, HO, HT, HE⟩ := hrel
    have hsw := (unhid HE).size
    obtain ⟨t8, tl⟩ := tN_ok key info j
    obtain ⟨q, hq⟩ : ∃ q, (tN key info j).length = q := ⟨_, rfl⟩
    have htl : bytes (tN key info j ++ info ++ [j + 1]) = bytes (tN key info j) ++ bytes info ++ bytes [j + 1] := by rw [bytes_append, bytes_append]
    have hTS : tN key info (j + 1) = macN key (tN key info j ++ info ++ [j + 1]) := rfl
    have hOS : outN key info (j + 1) = outN key info j ++ tN key info (j + 1) := rfl
    rw [hq] at HT tl
    by_cases hlt : 32 * j < k
    · have x8 : B8 (tN key info j ++ info ++ [j + 1]) := (t8.append B8'.out).append (fun x hx => by rw [List.mem_singleton.1 hx]; omega)
      have xl : (tN key info j ++ info ++ [j + 1]).length = q + n' + 1 := by rw [List.length_append, List.length_append, hq, HIL.out]; rfl
      obtain ⟨X, hX⟩ : ∃ X, tN key info j ++ info ++ [j + 1] = X := ⟨_, rfl⟩
      rw [hX] at hTS htl x8 xl
      have XB := hid htl; have X8 := hid x8; have XL := hid xl; have HTS := hid hTS; have HOS := hid hOS; have HQ := hid hq
      have h1 : (0 : Int) ≤ (j : Int) + 1 := by omega
      have h2 : (j : Int) + 1 + 1 < 256 := by omega
      have h3 : (32 : Int) * (j : Int) < (k : Int) := by omega
      clear hX hTS htl x8 xl hOS t8
      rw [hq]
      clear hq
      go_wp2_with (at_builtin; refine halt_at (fun K hK => ?_))
      refine go_on hK ?_; clear hK
      refine app_new bytesE rfl (.const (.slice none 0 0)) (.tmp 26) rfl rfl (Own.none _ wr.heap.size _ _) rfl (unhid HT) (bytes_one _) (by simp [maxLen]; omega) (by omega) (Nat.le_refl _) ?_
      intro A1 c1 w1 o1 g1 l1
      have G1 : Below wr.heap.size wr w1 := Below.grown (Below.refl _ _) g1 (Nat.le_refl _) (fun q hq => by cases hq)
      have F1 := hid G1; have O1 := hid o1
      have R1 := hid (((unhid HR').below ((unhid HE).mono hD)).below (G1.mono (by omega)))
      have s1 := G1.size
      clear G1 o1 g1 l1
      go_wp2_with (at_builtin; refine halt_at (fun K hK => ?_))
      refine go_on hK ?_; clear hK
      refine app_step bytesE rfl (.tmp 27) (.tmp 28) rfl rfl (unhid O1) rfl (unhid R1) (bytes_one _) (by simp [maxLen]; omega) (by omega) (by omega) ?_
      intro A2 c2 w2 o2 g2 l2
      have G2 : Below wr.heap.size w1 w2 := Below.grown (Below.refl _ _) g2 (by omega) (fun q hq => ((unhid O1).from_ q hq).1)
      have F2 := hid ((unhid F1).trans G2); have O2 := hid o2
      have s2 := G2.size
      clear G2 o2 g2 l2 F1 O1 R1
      go_wp2_with (at_builtin; refine halt_at (fun K hK => ?_))
      refine go_on hK ?_; clear hK
      refine app_step bytesE rfl (.tmp 29) (.tmp 31) rfl rfl ((unhid O2).alloc _) rfl (Row.lit_at _ _ _ _ _ (bytes [j + 1]) rfl rfl rfl) (bytes_one _) (by simp [maxLen]; omega) (by omega) (by simp; omega) ?_
      intro A3 c3 w3 o3 g3 l3
      rw [← XB.out] at o3
      have G3 : Below wr.heap.size w2 w3 := Below.grown ((Below.refl _ _).alloc (by omega) _) g3 (by simp; omega) (fun q hq => ((unhid O2).from_ q hq).1)
      have F3 := hid ((unhid F2).trans G3); have O3 := hid o3
      have s3 := G3.size
      clear G3 o3 g3 l3 F2 O2
      go_wp2_with fail
      refine (mac_any key X A A3 n c (q + n' + 1) c3 w3.heap.size w3 (((unhid HR).below (((unhid HE).trans ((unhid F3).mono hsw)).mono hD)).more (by omega)) (Row.of_own (unhid O3)) (Nat.le_refl _) hn (by omega) K8.out X8.out ((unhid HL).below ((unhid HE).trans ((unhid F3).mono hsw)) h0) (by omega)).mono ?_
      rintro e w4 ⟨rfl, hb4⟩
      rw [← HTS.out]
      have F4 := hid ((unhid F3).trans (hb4.mono (by omega)))
      have s4 := hb4.size
      clear hb4 O3 F3
      go_wp2_with (with_reducible refine halt_op (some 12) (.alloc _) (fun K hK => ?_))
      refine go_on hK ?_; clear hK
      refine alloc_arr digT rfl rfl ?_
      rintro g12 w5 hg12 s5 b5 e5
      have htl : (tN key info (j + 1)).length = 32 := by rw [HTS.out, macN_len]
      refine store_arr digT (l := up (tN key info (j + 1))) rfl (.tmp 12) (.tmp 35) rfl rfl rfl (by rw [up_len, htl]) b5 (by simp [cellsOf]) ?_
      intro w6 b6 g6
      have e6 : Below g12 w4 w6 := Below.grown (by rw [hg12]; rw [hg12] at e5; exact e5) g6 (by omega) (fun q hq => by injection hq with hq; omega)
      have F6 := hid ((unhid F4).trans (e6.mono (by omega)))
      have R6 : Hid (Row w6 w6.heap.size 1 (some ⟨g12, 0, none⟩) 32 (bytes (tN key info (j + 1)))) := hid (by have := Row.of_blk b6; rw [up_len, htl] at this; exact this)
      have s6 := e6.size
      have HTL := hid htl
      have hgw : wr.heap.size ≤ g12 := by omega
      clear b5 e5 b6 g6 e6 hg12 s5 F4 htl
      go_wp2_with (at_builtin; refine halt_at (fun K hK => ?_))
      refine go_on hK ?_; clear hK
      refine app_step bytesE rfl (.tmp 37) (.tmp 38) rfl rfl ((unhid HO).below (unhid F6) (Nat.le_refl _)) rfl (unhid R6) (bytes_one _) (by simp [maxLen]; omega) (by omega) (by omega) ?_
      intro A7 c7 w7 o7 g7 l7
      rw [← bytes_append, ← HOS.out, show 32 * j + 32 = 32 * (j + 1) by omega] at o7
      have e7 : Below w.heap.size w6 w7 := Below.grown (Below.refl _ _) g7 (by omega) (fun q hq => ((unhid HO).from_ q hq).1)
      have E7 := hid (((unhid HE).trans ((unhid F6).mono hsw)).trans e7)
      have O7 := hid o7
      have R7 : Hid (Row w7 w7.heap.size 1 (some ⟨g12, 0, none⟩) 32 (bytes (tN key info (j + 1)))) := hid (Row.far (unhid R6) (Nat.le_refl _) g7 (fun q hq h => by
        have h1 : g12 = q := Option.some.inj hq
        have := ((unhid HO).from_ q h).2
        omega) (Nat.le_refl _))
      clear o7 g7 l7 e7 R6 F6 HO HE HT
      rw [show 32 * j + 32 = 32 * (j + 1) by omega]
      go_wp2_with fail
      go_roundw
      case rel => exact ⟨j + 1, A7, some ⟨g12, 0, none⟩, c7, 32, by omega, by go_num, rfl, by rw [HTL.out], O7, by rw [HTL.out]; exact R7, E7⟩
      case measure => simp; omega
    · have hjk : (k + 31) / 32 = j := by omega
      have h3 : (k : Int) ≤ 32 * (j : Int) := by omega
      have hle := (unhid HO).le.1
      clear hTS hOS htl t8
      go_wp2_with (with_reducible refine halt_op (some 43) (.slice _ _ _ _ _) (fun K hK => ?_))
      refine go_on hK ?_; clear hK
      refine slice3_step bytesE rfl (.tmp 40) (.tmp 41) (.tmp 42) rfl rfl (j := k) rfl rfl (Row.of_own (unhid HO)) (by omega) hle ?_
      intro A8 _ r8
      rw [Nat.mul_one, ← bytes_take] at r8
      have R8 := hid r8
      clear r8
      go_wp2_with fail
      go_ret2
      exact ⟨A8, rfl, by rw [expN, hjk]; exact unhid R8, unhid HE⟩
end Go.Proofs.YthpdpgjpkpkebaaDoor

/- The walk of the law MacKeys. -/
import Derived.Test.YthpdpgjpkpkebaaDoorMacW
import Derived.Test.YthpdpgjpkpkebaaDoorNats
namespace Go.Proofs.YthpdpgjpkpkebaaDoor
set_option linter.unusedVariables false
open Go.RowKit Go.Mny
theorem noGuardD : Tryd.prog.eqGuardType Tryd.prog.depth 25 = false := by kernel_rfl
def z32 : List Nat := List.replicate 32 0
set_option maxRecDepth 100000 in
theorem mac_fact : macN [] [] ≠ z32 := by decide +kernel
theorem macN_sum (key b : List Nat) (h : 64 < key.length) : macN (Sh2.sum key) b = macN key b := by
  unfold macN macK
  rw [if_neg (by rw [Sh2.sum_len]; decide), if_pos h]
theorem getD_zeros (k : List Nat) (z i : Nat) : (k ++ List.replicate z 0).getD i 0 = k.getD i 0 := by
  rw [List.getD_eq_getElem?_getD, List.getD_eq_getElem?_getD]
  by_cases h : i < k.length
  · rw [List.getElem?_append_left h]
  · rw [List.getElem?_append_right (by omega), List.getElem?_eq_none (l := k) (by omega), List.getElem?_replicate]
    split <;> rfl
theorem macN_zeros (key b : List Nat) (z : Nat) (h : key.length + z ≤ 64) : macN (key ++ List.replicate z 0) b = macN key b := by
  have e : ∀ x, keyX (key ++ List.replicate z 0) x = keyX key x := fun x => by
    unfold keyX; refine List.map_congr_left fun i _ => ?_; rw [getD_zeros]
  unfold macN macK
  rw [if_neg (by rw [List.length_append, List.length_replicate]; omega), if_neg (by omega), e, e]
set_option maxHeartbeats 8000000 in
set_option maxRecDepth 100000 in
theorem macKeys_walk (A0 : Option Addr) (n0 c0 : Nat) (l0 : List Int) (A1 : Option Addr) (n1 c1 : Nat) (l1 : List Int) (a2 : Int) (w : World) (b0 : n0 ≤ c0) (g0 : c0 ≤ maxLen) (r0 : Row w w.heap.size 1 A0 n0 (l0.map (Value.int .u8))) (f0 : ∀ z ∈ l0, (Lit.int .u8 z).wf = true) (b1 : n1 ≤ c1) (g1 : c1 ≤ maxLen) (r1 : Row w w.heap.size 1 A1 n1 (l1.map (Value.int .u8))) (f1 : ∀ z ∈ l1, (Lit.int .u8 z).wf = true) (f2 : (Lit.int .i64 a2).wf = true) (rb0 : n0 * 1 ≤ 140737488351232) (rb1 : n1 * 1 ≤ 140737488351232) (hL : Laid w) (h0 : 0 < w.heap.size) :
    Calls Tryd.prog 5 #[.slice A0 n0 c0, .slice A1 n1 c1, .int .i64 a2] w fun e w' => e = .returned (.bool true) ∧ Below w.heap.size w w' := by
  obtain ⟨key, rfl, k8⟩ := nats_of f0
  obtain ⟨b, rfl, b8⟩ := nats_of f1
  have v2 := bounds_i64 f2
  have hkl : key.length = n0 := by have := r0.length; rw [up_len] at this; exact this
  have HR := hid (show Row w w.heap.size 1 A0 n0 (bytes key) from r0); have HR' := hid (show Row w w.heap.size 1 A1 n1 (bytes b) from r1); have HL := hid hL; have K8 := hid k8; have B8' := hid b8; have HKL := hid hkl
  have hn0 : n0 ≤ 140737488351232 := by omega
  have hn1 : n1 ≤ 140737488351232 := by omega
  clear r0 r1 f0 f1 f2 hL k8 b8 hkl rb0 rb1 b0 b1 g0 g1
  have MACC : Hid (∀ (k' : List Nat) (A' : Option Addr) (n' c' D' : Nat) (w' : World), Row w' D' 1 A' n' (bytes k') → D' ≤ w'.heap.size → n' ≤ 140737488351232 → B8 k' → Below w.heap.size w w' → Calls Tryd.prog 15 #[.slice A' n' c', .slice A1 n1 c1] w' fun e w'' => e = .returned (.agg (cellsOf .u8 (up (macN k' b)))) ∧ Below w'.heap.size w' w'') := fun k' A' n' c' D' w' hr hD hn h8 hbl =>
    mac_any k' b A' A1 n' c' n1 c1 w'.heap.size w' (hr.more hD) (((unhid HR').below hbl).more hbl.size) (Nat.le_refl _) (by omega) (by omega) h8 B8'.out ((unhid HL).below hbl h0) (by have := hbl.size; omega)
  go_enter Tryd.func5, Tryd.ntmps5
  go_wp2_with fail
  refine (mac_any [] [] none none 0 0 0 0 0 _ (Row.nil _ _ _ _) (Row.nil _ _ _ _) (Nat.zero_le _) (by omega) (by omega) B8.nil B8.nil (unhid HL) h0).mono ?_
  rintro e w1 ⟨rfl, hb1⟩
  have E1 := hid hb1
  clear hb1
  go_wp2_with (with_reducible refine halt_op (some 7) (.alloc _) (fun K hK => ?_))
  refine go_on hK ?_; clear hK
  refine alloc_arr digT rfl rfl ?_
  rintro g7 w2 hg7 s2 b2 e2
  refine store_arr digT (l := up (macN [] [])) rfl (.tmp 7) (.tmp 12) rfl rfl rfl (by rw [up_len, macN_len]) b2 (by simp [cellsOf]) ?_
  intro w3 b3 g3
  have e3 : Below g7 w1 w3 := Below.grown (by rw [hg7]; rw [hg7] at e2; exact e2) g3 (by omega) (fun q hq => by injection hq with hq; omega)
  have E3 := hid ((unhid E1).trans (e3.mono (by have := (unhid E1).size; omega)))
  have B3 := hid b3
  clear b2 e2 b3 g3 e3 hg7 s2 E1
  go_wp2_with (with_reducible refine halt_op (some 13) (.load _ _) (fun K hK => ?_))
  refine go_on hK ?_; clear hK
  refine load_arr digT (l := up (macN [] [])) rfl (.tmp 7) rfl rfl (unhid B3) (by rw [up_len, macN_len]) ?_
  go_wp2_with (with_reducible refine halt_op (some 15) (.binOp _ _ _ _ _) (fun K hK => ?_))
  refine go_on hK ?_; clear hK
  refine eql_arr digT (l1 := up (macN [] [])) (l2 := up z32) (b := false) noGuardD rfl (.tmp 13) (.tmp 14) 25 rfl rfl rfl (by rw [up_len, macN_len]) rfl (by
    have : ¬ (up (macN [] []) = up z32) := fun h => mac_fact (up_inj h)
    simp [this]) ?_
  clear B3
  go_wp2_with fail
  refine (unhid MACC key A0 n0 c0 w.heap.size _ ((unhid HR).below (unhid E3)) (unhid E3).size hn0 K8.out (unhid E3)).mono ?_
  rintro e w4 ⟨rfl, hb4⟩
  have E4 := hid ((unhid E3).trans (hb4.mono (unhid E3).size))
  clear hb4 E3
  go_wp2_with (with_reducible refine halt_op (some 8) (.alloc _) (fun K hK => ?_))
  refine go_on hK ?_; clear hK
  refine alloc_arr digT rfl rfl ?_
  rintro g8 w5 hg8 s5 b5 e5
  refine store_arr digT (l := up (macN key b)) rfl (.tmp 8) (.tmp 18) rfl rfl rfl (by rw [up_len, macN_len]) b5 (by simp [cellsOf]) ?_
  intro w6 b6 g6
  have e6 : Below g8 w4 w6 := Below.grown (by rw [hg8]; rw [hg8] at e5; exact e5) g6 (by omega) (fun q hq => by injection hq with hq; omega)
  have E6 := hid ((unhid E4).trans (e6.mono (by have := (unhid E4).size; omega)))
  have M6 := hid b6
  have ML : Hid ((up (macN key b)).length = 32) := hid (by rw [up_len, macN_len])
  clear b5 e5 b6 g6 e6 hg8 s5 E4
  by_cases hk : 64 < n0
  · go_wp2_with fail
    refine (sum_any key A0 n0 c0 w.heap.size _ ((unhid HR).below (unhid E6)) (unhid E6).size (by omega) K8.out ((unhid HL).below (unhid E6) h0) (by have := (unhid E6).size; omega)).mono ?_
    rintro e w7 ⟨rfl, hb7⟩
    have E7 := hid ((unhid E6).trans (hb7.mono (unhid E6).size))
    have M7 := hid ((unhid M6).below hb7 (unhid M6).lt')
    clear hb7 E6 M6
    go_wp2_with (with_reducible refine halt_op (some 9) (.alloc _) (fun K hK => ?_))
    refine go_on hK ?_; clear hK
    refine alloc_arr digT rfl rfl ?_
    rintro g9 w8 hg9 s8 b8 e8
    refine store_arr digT (l := up (Sh2.sum key)) rfl (.tmp 9) (.tmp 23) rfl rfl rfl (sum_len_u _) b8 (by simp [cellsOf]) ?_
    intro W b9 g9'
    have e9 : Below g9 w7 W := Below.grown (by rw [hg9]; rw [hg9] at e8; exact e8) g9' (by omega) (fun q hq => by injection hq with hq; omega)
    have EW := hid ((unhid E7).trans (e9.mono (by have := (unhid E7).size; omega)))
    have MW := hid ((unhid M7).below e9 (by have := (unhid M7).lt'; omega))
    have RS : Hid (Row W W.heap.size 1 (some ⟨g9, 0, none⟩) 32 (bytes (Sh2.sum key))) := hid (by have := Row.of_blk b9; rw [sum_len_u] at this; exact this)
    have C7 : Hid (∀ w', Below W.heap.size W w' → Calls Tryd.prog 15 #[.slice (some ⟨g9, 0, none⟩) 32 32, .slice A1 n1 c1] w' fun e w'' => e = .returned (.agg (cellsOf .u8 (up (macN key b)))) ∧ Below W.heap.size W w'') := fun w' hbw => by
      have := unhid MACC (Sh2.sum key) (some ⟨g9, 0, none⟩) 32 32 W.heap.size w' ((unhid RS).below hbw) hbw.size (by omega) (Sh2.sum_lt _) ((unhid EW).trans (hbw.mono (unhid EW).size))
      rw [macN_sum key b (by rw [HKL.out]; exact hk)] at this
      exact this.mono fun e w'' ⟨h1, h2⟩ => ⟨h1, hbw.trans (h2.mono hbw.size)⟩
    have LM : Hid (∀ w', Below W.heap.size W w' → w'.rangeAt g8 0 ((up (macN key b)).map (Value.int .u8))) := fun w' hbw => ((unhid MW).below hbw (unhid MW).lt').range
    clear b8 e8 b9 g9' e9 hg9 s8 E7 M7 MACC
    go_wp2_with fail
    refine wp_region_held_drew (S := fun w' => Below W.heap.size W w') (by kernel_rfl) (Below.refl _ _).drew (fun hS => ?_)
    refine wpAnyH_take (i := 0) (oi := { dst := some 24, op := Op.slice 25 (Operand.tmp 9) none none none, type := 22, pos := "low.go:181", after := #[], guard := none }) (v := .slice (some ⟨g9, 0, none⟩) 32 32) rfl (by kernel_rfl) (by kernel_rfl) (by kernel_rfl) (fun _ _ _ h => h) (yields_of rfl (fun w => by go_simp)) hS ?_
    try simp only [Act.put, List.setIfInBounds_toArray, List.set_cons_zero, List.set_cons_succ]
    refine wpAnyH_take (i := 1) (oi := { dst := some 25, op := Op.move (Operand.tmp 1), type := 22, pos := "low.go:181", after := #[], guard := none }) (v := .slice A1 n1 c1) rfl (by kernel_rfl) (by kernel_rfl) (by kernel_rfl) (fun _ _ _ h => h) (yields_of rfl (fun w => by go_simp)) hS ?_
    try simp only [Act.put, List.setIfInBounds_toArray, List.set_cons_zero, List.set_cons_succ]
    refine wpAnyH_take (i := 3) (oi := { dst := some 27, op := Op.load 25 (Operand.tmp 8), type := 25, pos := "low.go:181", after := #[], guard := none }) (v := .agg (cellsOf .u8 (up (macN key b)))) rfl (by kernel_rfl) (by kernel_rfl) (by kernel_rfl) (fun _ _ _ h => h) (yields_load digT rfl (.tmp 8) rfl rfl ML.out (fun w h => LM.out w h)) hS ?_
    try simp only [Act.put, List.setIfInBounds_toArray, List.set_cons_zero, List.set_cons_succ]
    refine wpAnyH_ready (rs := [2]) (by kernel_rfl) (by simp) ?_
    refine AllReadyH.cons (o := { dst := some 26, op := Op.call { callee := Callee.value (Operand.func 15), args := #[Operand.tmp 24, Operand.tmp 25], argTypes := #[22, 22] }, type := 25, pos := "low.go:181", after := #[{ on := 0, ground := Ground.data }, { on := 1, ground := Ground.data }], guard := none }) rfl (fun K hK => ?_) AllReadyH.nil
    go_simp
    refine (unhid C7 _ hS).mono ?_
    rintro e w9 ⟨rfl, hb9⟩
    go_wp2_with fail
    refine hK.out _ _ hb9 (fun hS1 => ?_)
    try simp only [Act.put, List.setIfInBounds_toArray, List.set_cons_zero, List.set_cons_succ]
    refine wpAnyH_take (i := 4) (oi := { dst := some 28, op := Op.binOp BinOp.eql 25 (Operand.tmp 26) (Operand.tmp 27) 25, type := 4, pos := "low.go:181", after := #[{ on := 2, ground := Ground.data }, { on := 3, ground := Ground.data }], guard := none }) (v := .bool true) rfl (by kernel_rfl) (by kernel_rfl) (by kernel_rfl) (fun _ _ _ h => h) (yields_eql digT noGuardD rfl (.tmp 26) (.tmp 27) 25 rfl rfl rfl ML.out ML.out (by simp)) hS1 ?_
    try simp only [Act.put, List.setIfInBounds_toArray, List.set_cons_zero, List.set_cons_succ]
    refine wpAnyH_ready (rs := [5]) (by kernel_rfl) (by simp) ?_
    refine AllReadyH.cons (o := { dst := some 6, op := Op.assign (Operand.tmp 28), type := 4, pos := "low.go:181", after := #[{ on := 4, ground := Ground.data }, { on := 2, ground := Ground.chain }, { on := 0, ground := Ground.phase }, { on := 1, ground := Ground.phase }, { on := 2, ground := Ground.phase }, { on := 3, ground := Ground.phase }, { on := 4, ground := Ground.phase }], guard := none }) rfl (fun K hK => ?_) AllReadyH.nil
    go_simp
    refine hK.out _ _ hS1 (fun hS2 => ?_)
    refine wpAnyH_done (by kernel_rfl) ?_ _
    go_wp2_with fail
    go_ret
    exact ⟨rfl, (unhid EW).trans (hb9.mono (unhid EW).size)⟩
  have hk' : n0 ≤ 64 := by omega
  by_cases hz0 : a2 < 0
  · go_wp2_with fail
    go_ret
    exact ⟨rfl, unhid E6⟩
  obtain ⟨z, rfl⟩ := Int.eq_ofNat_of_zero_le (show 0 ≤ a2 by omega)
  by_cases hz : (64 : Int) - (n0 : Int) < (z : Int)
  · go_wp2_with fail
    go_ret
    exact ⟨rfl, unhid E6⟩
  have hz' : n0 + z ≤ 64 := by omega
  go_wp2_with (at_builtin; refine halt_at (fun K hK => ?_))
  refine go_on hK ?_; clear hK
  have s6w := (unhid E6).size
  refine app_new bytesE rfl (.tmp 38) (.tmp 39) rfl rfl (Own.lit_at w6 w6.heap.size 5 1 0 _ _ [] rfl (Nat.le_refl _) (by decide) rfl rfl) rfl (((unhid HR).below (unhid E6)).alloc s6w _) (bytes_one key) (by simp [maxLen]; omega) (by omega) (by simp) ?_
  intro A8 c8 w8 o8 g8' l8
  have e8 : Below w6.heap.size w6 w8 := Below.grown ((Below.refl _ _).alloc (Nat.le_refl _) _) g8' (by simp) (fun q hq => by have h : w6.heap.size = q := Option.some.inj hq; omega)
  have hg6 : g8 < w6.heap.size := (unhid M6).lt'
  have O8g : Hid (Own w8 w6.heap.size 5 1 A8 n0 c8 (bytes key)) := hid o8
  have E8 := hid e8
  clear o8 g8' l8 e8
  go_wp2_with fail
  go_loopw [10, 11] (fun v10 v11 wr => ∃ (j : Nat) (AL : Option Addr) (cL : Nat), j ≤ z ∧ v11 = .int .i64 j ∧ v10 = .slice AL (n0 + j) cL ∧ Hid (Own wr w6.heap.size 5 1 AL (n0 + j) cL (bytes (key ++ List.replicate j 0))) ∧ Hid (Below w6.heap.size w6 wr)) (fun _ v11 _ => z - (intOf v11).toNat)
  case atStart => exact ⟨0, A8, c8, Nat.zero_le _, rfl, rfl, by rw [List.replicate_zero, List.append_nil]; exact O8g, E8⟩
  case round =>
    obtain ⟨j, AL, cL, hj, rfl, rfl, HO, HE⟩ := hrel
    have hs6 := (unhid HE).size
    by_cases hjz : j < z
    · go_wp2_with (at_builtin; refine halt_at (fun K hK => ?_))
      refine go_on hK ?_; clear hK
      refine app_step bytesE rfl (.tmp 46) (.tmp 47) rfl rfl ((unhid HO).alloc _) rfl (Row.lit_at _ _ _ _ _ (bytes [0]) rfl rfl rfl) (bytes_one [0]) (by simp [maxLen]; omega) (by omega) (by simp; omega) ?_
      intro A9 c9 w9 o9 g9 l9
      rw [← bytes_append, List.append_assoc, show List.replicate j 0 ++ [0] = List.replicate (j + 1) 0 from List.replicate_succ'.symm] at o9
      have e9 : Below w6.heap.size wr w9 := Below.grown ((Below.refl _ _).alloc hs6 _) g9 (by simp; omega) (fun q hq => ((unhid HO).from_ q hq).1)
      have E9 := hid ((unhid HE).trans e9)
      have O9 := hid o9
      clear o9 g9 l9 e9 HO HE
      rw [Nat.add_assoc] at O9 ⊢
      go_wp2_with fail
      go_roundw
      case rel => exact ⟨j + 1, A9, c9, by omega, by go_num, rfl, O9, E9⟩
      case measure => simp [intOf]; omega
    · have hjz2 : j = z := by omega
      subst hjz2
      have EW := hid ((unhid E6).trans ((unhid HE).mono s6w))
      have MW := hid ((unhid M6).below (unhid HE) hg6)
      have RS : Hid (Row wr wr.heap.size 1 AL (n0 + j) (bytes (key ++ List.replicate j 0))) := hid (Row.of_own (unhid HO))
      have zz8 : B8 (key ++ List.replicate j 0) := K8.out.append (fun x hx => by rw [(List.mem_replicate.1 hx).2]; decide)
      have C15 : Hid (∀ w', Below wr.heap.size wr w' → Calls Tryd.prog 15 #[.slice AL (n0 + j) cL, .slice A1 n1 c1] w' fun e w'' => e = .returned (.agg (cellsOf .u8 (up (macN key b)))) ∧ Below wr.heap.size wr w'') := fun w' hbw => by
        have := unhid MACC (key ++ List.replicate j 0) AL (n0 + j) cL wr.heap.size w' ((unhid RS).below hbw) hbw.size (by omega) zz8 ((unhid EW).trans (hbw.mono (unhid EW).size))
        rw [macN_zeros key b j (by rw [HKL.out]; exact hz')] at this
        exact this.mono fun e w'' ⟨h1, h2⟩ => ⟨h1, hbw.trans (h2.mono hbw.size)⟩
      have LM : Hid (∀ w', Below wr.heap.size wr w' → w'.rangeAt g8 0 ((up (macN key b)).map (Value.int .u8))) := fun w' hbw => ((unhid MW).below hbw (unhid MW).lt').range
      clear HO HE E6 M6 MACC zz8
      go_wp2_with fail
      refine wp_region_held_drew (S := fun w' => Below wr.heap.size wr w') (by kernel_rfl) (Below.refl _ _).drew (fun hS => ?_)
      refine wpAnyH_take (i := 0) (oi := { dst := some 49, op := Op.move (Operand.tmp 10), type := 22, pos := "low.go:190", after := #[], guard := none }) (v := .slice AL (n0 + j) cL) rfl (by kernel_rfl) (by kernel_rfl) (by kernel_rfl) (fun _ _ _ h => h) (yields_of rfl (fun w => by go_simp)) hS ?_
      try simp only [Act.put, List.setIfInBounds_toArray, List.set_cons_zero, List.set_cons_succ]
      refine wpAnyH_take (i := 1) (oi := { dst := some 50, op := Op.move (Operand.tmp 1), type := 22, pos := "low.go:190", after := #[], guard := none }) (v := .slice A1 n1 c1) rfl (by kernel_rfl) (by kernel_rfl) (by kernel_rfl) (fun _ _ _ h => h) (yields_of rfl (fun w => by go_simp)) hS ?_
      try simp only [Act.put, List.setIfInBounds_toArray, List.set_cons_zero, List.set_cons_succ]
      refine wpAnyH_take (i := 3) (oi := { dst := some 52, op := Op.load 25 (Operand.tmp 8), type := 25, pos := "low.go:190", after := #[], guard := none }) (v := .agg (cellsOf .u8 (up (macN key b)))) rfl (by kernel_rfl) (by kernel_rfl) (by kernel_rfl) (fun _ _ _ h => h) (yields_load digT rfl (.tmp 8) rfl rfl ML.out (fun w h => LM.out w h)) hS ?_
      try simp only [Act.put, List.setIfInBounds_toArray, List.set_cons_zero, List.set_cons_succ]
      refine wpAnyH_ready (rs := [2]) (by kernel_rfl) (by simp) ?_
      refine AllReadyH.cons (o := { dst := some 51, op := Op.call { callee := Callee.value (Operand.func 15), args := #[Operand.tmp 49, Operand.tmp 50], argTypes := #[22, 22] }, type := 25, pos := "low.go:190", after := #[{ on := 0, ground := Ground.data }, { on := 1, ground := Ground.data }], guard := none }) rfl (fun K hK => ?_) AllReadyH.nil
      go_simp
      refine (unhid C15 _ hS).mono ?_
      rintro e w15 ⟨rfl, hb15⟩
      go_wp2_with fail
      refine hK.out _ _ hb15 (fun hS1 => ?_)
      try simp only [Act.put, List.setIfInBounds_toArray, List.set_cons_zero, List.set_cons_succ]
      refine wpAnyH_take (i := 4) (oi := { dst := some 53, op := Op.binOp BinOp.eql 25 (Operand.tmp 51) (Operand.tmp 52) 25, type := 4, pos := "low.go:190", after := #[{ on := 2, ground := Ground.data }, { on := 3, ground := Ground.data }], guard := none }) (v := .bool true) rfl (by kernel_rfl) (by kernel_rfl) (by kernel_rfl) (fun _ _ _ h => h) (yields_eql digT noGuardD rfl (.tmp 51) (.tmp 52) 25 rfl rfl rfl ML.out ML.out (by simp)) hS1 ?_
      try simp only [Act.put, List.setIfInBounds_toArray, List.set_cons_zero, List.set_cons_succ]
      refine wpAnyH_ready (rs := [5]) (by kernel_rfl) (by simp) ?_
      refine AllReadyH.cons (o := { dst := some 6, op := Op.assign (Operand.tmp 53), type := 4, pos := "low.go:190", after := #[{ on := 4, ground := Ground.data }, { on := 2, ground := Ground.chain }, { on := 0, ground := Ground.phase }, { on := 1, ground := Ground.phase }, { on := 2, ground := Ground.phase }, { on := 3, ground := Ground.phase }, { on := 4, ground := Ground.phase }], guard := none }) rfl (fun K hK => ?_) AllReadyH.nil
      go_simp
      refine hK.out _ _ hS1 (fun hS2 => ?_)
      refine wpAnyH_done (by kernel_rfl) ?_ _
      go_wp2_with fail
      go_ret
      exact ⟨rfl, (unhid EW).trans (hb15.mono (unhid EW).size)⟩
end Go.Proofs.YthpdpgjpkpkebaaDoor

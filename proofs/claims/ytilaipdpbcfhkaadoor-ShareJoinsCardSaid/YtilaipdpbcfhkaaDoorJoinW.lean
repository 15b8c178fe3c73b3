/- The walk of share.Join, for shares that are all right. -/
import Derived.Test.YtilaipdpbcfhkaaDoorThroughW
import Derived.Test.YtilaipdpbcfhkaaDoorContainsW
namespace Go.Proofs.YtilaipdpbcfhkaaDoor
set_option linter.unusedVariables false
open Go.RowKit Go.Mny
theorem rowsS : Elt Tryd.prog 34 33 1 24 := Elt.of Tryd.underlying34 (.slice none 0 0) (by kernel_rfl) rfl (by decide)
def rsN (es : List Value) (i : Nat) : List Value := (List.range i).map fun q => es.getD (q * 2 + 1) undef
theorem rsN_succ (es : List Value) (i : Nat) : rsN es (i + 1) = rsN es i ++ [es.getD (i * 2 + 1) undef] := by simp [rsN, List.range_succ]
def JoinP (L : List (Nat × List Nat)) (n m : Nat) (w : World) (e : Ending) (w' : World) : Prop :=
  ∃ A2, e = .returned (.tuple #[.slice A2 m m, .nilIface]) ∧ Row w' w'.heap.size 1 A2 m (byt (outT (wgtN (L.map (·.1)) 0 n) (L.map (·.2)) m n)) ∧ Below w.heap.size w w'
set_option maxHeartbeats 4000000 in
set_option maxRecDepth 100000 in
theorem join_yes (L : List (Nat × List Nat)) (A : Option Addr) (n c D m : Nat) (w : World) (hA : ShR w D A n L) (hD : D ≤ w.heap.size) (h1 : 1 ≤ n) (h2 : n ≤ 20) (hm : m ≤ 140737488351232)
    (hp : ∀ p ∈ L, 1 ≤ p.1 ∧ p.1 < 256 ∧ p.2.length = m ∧ By8s p.2) (hnd : (L.map (·.1)).Nodup) :
    Calls Tryd.prog 22 #[.slice A n c] w (JoinP L n m w) := by
  have hl : L.length = n := by obtain ⟨_, _, h, _⟩ := hA; exact h
  obtain ⟨es, hes⟩ : ∃ es : List Value, (∀ (i x : Nat) (d : List Nat), L[i]? = some (x, d) → ∃ (A' : Option Addr) (c' : Nat), es[i * 2 + 1]? = some (Value.slice A' d.length c') ∧ d.length ≤ c' ∧ Row w D 1 A' d.length (byt d)) ∧ ∀ W, Below D w W → ∀ (i x : Nat) (d : List Nat), i < n → L[i]? = some (x, d) → ∃ (g o : Nat) (A' : Option Addr) (c' : Nat), A = some ⟨g, o, none⟩ ∧ es[i * 2 + 1]? = some (Value.slice A' d.length c') ∧ W.cell? ⟨g, o + i * 2, none⟩ = some (.int .u8 (x : Int)) ∧ W.cell? ⟨g, o + i * 2 + 1, none⟩ = some (.slice A' d.length c') := by
    obtain ⟨es, e1, e2, e3⟩ := hA
    refine ⟨es, fun i x d hi => ?_, fun W hb i x d hin hi => ?_⟩
    · obtain ⟨A', c', f1, f2, f3, f4⟩ := e3 i x d hi
      exact ⟨A', c', f2, f3, f4⟩
    · obtain ⟨A', c', f1, f2, f3, f4⟩ := e3 i x d hi
      obtain ⟨g, o, q1, q2, q3⟩ := (e1.below hb).cells (by omega)
      have hl := e1.len
      refine ⟨g, o, A', c', q1, f2, ?_, ?_⟩
      · rw [q3 (i * 2) (by omega), f1]
      · rw [Nat.add_assoc, q3 (i * 2 + 1) (by omega), f2]
  have HES := hid hes.1; have HCL := hid hes.2
  have HP := hid hp; have HND := hid hnd; have HL := hid hl
  have t1 : (1 : Int) ≤ (n : Int) := by omega
  have t2 : (n : Int) ≤ 20 := by omega
  clear hes hp hnd hl hA
  go_enter Tryd.func22, Tryd.ntmps22
  go_wp2_with fail
  go_loopw [4, 5, 19] (fun v4 v5 v19 wr => ∃ (i : Nat) (AA AR : Option Addr) (cA cR : Nat), i ≤ n ∧ v19 = .int .i64 i ∧ v4 = .slice AA i cA ∧ v5 = .slice AR i cR ∧ Hid (Own wr w.heap.size 5 1 AA i cA (byt ((L.map (·.1)).take i))) ∧ Hid (Own wr w.heap.size 33 1 AR i cR (rsN es i)) ∧ Hid (∀ g, at_ AA = some g → at_ AR ≠ some g) ∧ Hid (Below w.heap.size w wr)) (fun _ _ v19 _ => n - (intOf v19).toNat)
  case atStart => exact ⟨0, none, none, 0, 0, Nat.zero_le _, rfl, rfl, rfl, by rw [List.take_zero]; exact Own.none _ _ _ _, Own.none _ _ _ _, hid (fun g h => by cases h), Below.refl _ _⟩
  case round =>
    obtain ⟨i, AA, AR, cA, cR, hi, rfl, rfl, rfl, HA, HR, HN, HB⟩ := hrel
    have bs := (unhid HB).size
    by_cases hlt : i < n
    · obtain ⟨p, hpi⟩ : ∃ p, L[i]? = some p := ⟨_, List.getElem?_eq_getElem (by rw [HL.out]; exact hlt)⟩
      obtain ⟨x, d⟩ := p
      obtain ⟨p0, hp0⟩ : ∃ p, L[0]? = some p := ⟨_, List.getElem?_eq_getElem (by rw [HL.out]; omega)⟩
      obtain ⟨x0, d0⟩ := p0
      obtain ⟨x1, x2, x3, x4⟩ := HP.out _ (List.mem_of_getElem? hpi)
      have y3 := (HP.out _ (List.mem_of_getElem? hp0)).2.2.1
      simp only at x1 x2 x3 x4 y3
      obtain ⟨g, o, A1, c1, rfl, f1, q0, q1⟩ := HCL.out wr ((unhid HB).mono hD) i x d hlt hpi
      obtain ⟨g', o', A0, c0, e, _, z0, z1⟩ := HCL.out wr ((unhid HB).mono hD) 0 x0 d0 (by omega) hp0
      injection e with e; injection e with e1 e2; subst e1; subst e2
      rw [x3] at q1 f1
      rw [y3] at z1
      simp only [Nat.zero_mul, Nat.add_zero] at z1
      have hget : (L.map (·.1))[i]? = some x := by rw [List.getElem?_map, hpi]; rfl
      have hnx : x ∉ (L.map (·.1)).take i := by
        intro h
        obtain ⟨j, hj, e⟩ := List.getElem_of_mem h
        have hj2 : j < i := by rw [List.length_take] at hj; omega
        rw [List.getElem_take] at e
        have hjl : j < (L.map (·.1)).length := by rw [List.length_take] at hj; omega
        have hil : i < (L.map (·.1)).length := by rw [List.length_map, HL.out]; exact hlt
        have h3 := List.pairwise_iff_getElem.1 HND.out j i hjl hil hj2
        have h4 := List.getElem?_eq_getElem hil
        rw [hget] at h4
        exact h3 (e.trans (Option.some.inj h4))
      have CT : Hid (∀ W, Below wr.heap.size wr W → Calls Tryd.prog 31 #[.slice AA i cA, .int .u8 (x : Int)] W fun e w' => e = .returned (.bool false) ∧ W = w') := hid fun W hb => by
        have := contains_any ((L.map (·.1)).take i) x AA i cA _ W ((Row.of_own (unhid HA)).below hb) (by omega)
        rwa [decide_eq_false hnx] at this
      have hx0 : ((x : Int) == 0) = false := by simp; omega
      have i1 : (0 : Int) ≤ (i : Int) := by omega
      have i2 : (i : Int) < (n : Int) := by omega
      have HGET := hid hget; have HF1 := hid f1
      clear hpi hget hnx f1 x1
      go_wp2_with fail
      refine ((unhid CT) _ ((Below.refl _ _).alloc (Nat.le_refl _) _)).mono ?_
      rintro e w' ⟨rfl, rfl⟩
      go_wp2_with fail
      have BS := hid (Blk.new wr 49 #[.int .u8 (x : Int), .slice A1 m c1])
      have E2 := hid ((Below.refl wr.heap.size wr).alloc (Nat.le_refl _) (.cells #[.int .u8 (x : Int), .slice A1 m c1] 49))
      generalize wr.alloc (.cells #[.int .u8 (x : Int), .slice A1 m c1] 49) = w2 at BS E2 ⊢
      obtain ⟨gs, hgs⟩ : ∃ gs, wr.heap.size = gs := ⟨_, rfl⟩
      have hgs2 := hid hgs
      have hs2 : wr.heap.size ≤ w2.heap.size := (unhid E2).size
      rw [hgs] at BS
      rw [hgs]
      clear hgs
      have zz := (unhid E2).mono (Nat.le_trans hD bs)
      obtain ⟨g2, o2, A2, c2, e, _, _, z2⟩ := HCL.out w2 (((unhid HB).mono hD).trans zz) 0 x0 d0 (by omega) hp0
      injection e with e; injection e with e1 e2; subst e1; subst e2
      rw [y3] at z2
      simp only [Nat.zero_mul, Nat.add_zero] at z2
      have d1 := (unhid BS).cell 1
      simp at d1
      have t0 : (0 : Int) < (n : Int) := by omega
      clear z0 z1 q0 q1 zz hp0
      go_region
      have B3' := hid (unhid BS).drew
      have E3 := hid (unhid E2).drew
      generalize w2.drew = w3 at B3' E3 ⊢
      have HAT : Hid ((L.map (·.1)).take i ++ [x] = (L.map (·.1)).take (i + 1)) := hid (by rw [List.take_add_one, HGET.out]; rfl)
      have HRS : Hid (rsN es i ++ [Value.slice A1 m c1] = rsN es (i + 1)) := hid (by rw [rsN_succ, List.getD_eq_getElem?_getD, HF1.out]; rfl)
      have oa3 := (unhid HA).below (unhid E3) (Nat.le_refl _)
      have or3 := (unhid HR).below (unhid E3) (Nat.le_refl _)
      have b3 : Below w.heap.size w w3 := (unhid HB).trans ((unhid E3).mono bs)
      have nn3 := HN.out
      have hga : ∀ q, at_ AA = some q → q < gs := fun q hq => by have := ((unhid HA).from_ q hq).2; have := hgs2.out; omega
      have hgr : ∀ q, at_ AR = some q → q < gs := fun q hq => by have := ((unhid HR).from_ q hq).2; have := hgs2.out; omega
      obtain ⟨KS, hKS⟩ : ∃ KS : Nat → Prop, KS = fun j => at_ AA = some j ∨ at_ AR = some j := ⟨_, rfl⟩
      have k3 : Kept KS w3 w3 := Kept.refl _ _
      have CC : Hid (∀ W, Kept KS w3 W → W.cell? ⟨gs, 0, none⟩ = some (.int .u8 (x : Int)) ∧ W.cell? ⟨gs, 1, none⟩ = some (.slice A1 m c1)) := hid fun W hk => by
        have bk := (unhid B3').kept hk (by rw [hKS]; intro h; rcases h with h | h; · exact absurd (hga _ h) (Nat.lt_irrefl _)
                                           · exact absurd (hgr _ h) (Nat.lt_irrefl _))
        exact ⟨bk.cell 0, bk.cell 1⟩
      have kin : ∀ j, at_ AA = some j ∨ at_ AR = some j → KS j := fun j h => by rw [hKS]; exact h
      have k3d : Kept KS w3 w3.drew := k3.drew
      have oa3d := oa3.drew
      have or3d := or3.drew
      have b3d : Below w.heap.size w w3.drew := b3.drew
      clear oa3 or3 k3 b3 hKS
      go_wp2_with fail
      refine wp_region_held_drew (S := fun W => Kept KS w3 W) (by kernel_rfl) k3d (fun hS => ?_)
      refine wpAnyH_take (i := 0) (v := .slice AA i cA) rfl (by kernel_rfl) (by kernel_rfl) (by kernel_rfl) (fun _ _ _ h => h) (yields_of rfl (fun w => by go_simp)) hS ?_
      simp only [Act.put, List.setIfInBounds_toArray]
      refine wpAnyH_take (i := 1) (v := .pointer (some ⟨gs, 0, none⟩)) rfl (by kernel_rfl) (by kernel_rfl) (by kernel_rfl) (fun _ _ _ h => h) (yields_of rfl (fun w => by go_simp)) hS ?_
      simp only [Act.put]
      refine wpAnyH_take (i := 2) (v := .int .u8 (x : Int)) rfl (by kernel_rfl) (by kernel_rfl) (by kernel_rfl) (fun _ _ _ h => h) (.inl ⟨rfl, fun w h => by have e := (CC.out w h).1; go_simp⟩) hS ?_
      simp only [Act.put]
      refine wpAnyH_take (i := 5) (v := .slice AR i cR) rfl (by kernel_rfl) (by kernel_rfl) (by kernel_rfl) (fun _ _ _ h => h) (yields_of rfl (fun w => by go_simp)) hS ?_
      simp only [Act.put]
      refine wpAnyH_take (i := 6) (v := .pointer (some ⟨gs, 1, none⟩)) rfl (by kernel_rfl) (by kernel_rfl) (by kernel_rfl) (fun _ _ _ h => h) (yields_of rfl (fun w => by go_simp)) hS ?_
      simp only [Act.put]
      refine wpAnyH_take (i := 7) (v := .slice A1 m c1) rfl (by kernel_rfl) (by kernel_rfl) (by kernel_rfl) (fun _ _ _ h => h) (.inl ⟨rfl, fun w h => by have e := (CC.out w h).2; go_simp⟩) hS ?_
      simp only [Act.put]
      refine wpAnyH_ready (rs := [3, 8]) (by kernel_rfl) (by simp) ?_
      refine AllReadyH.cons (o := _) rfl (fun K hK => ?_) (AllReadyH.cons (o := _) rfl (fun K hK => ?_) AllReadyH.nil)
      · go_simp
        have k_1 : Kept KS w3 (w3.drew.alloc (.cells #[.int .u8 (x : Int)] 5)) := k3d.alloc _
        have oa_1 := oa3d.alloc (.cells #[.int .u8 (x : Int)] 5)
        have or_1 := or3d.alloc (.cells #[.int .u8 (x : Int)] 5)
        have b_1 : Below w.heap.size w (w3.drew.alloc (.cells #[.int .u8 (x : Int)] 5)) := b3d.alloc (b3d.size) _
        have r1_1 := Row.lit w3.drew 5 #[.int .u8 (x : Int)] 1 (byt [x]) rfl rfl
        refine hK.out _ _ k_1 (fun _ => ?_)
        refine wpAnyH_ready (rs := [4, 8]) (by kernel_rfl) (by simp) ?_
        refine AllReadyH.cons (o := _) rfl (fun K hK => ?_) (AllReadyH.cons (o := _) rfl (fun K hK => ?_) AllReadyH.nil)
        · rw [if_pos (by rfl)]
          refine app_wp bytW (.tmp 45) (.tmp 48) rfl rfl oa_1 rfl r1_1 (byt_one _) (by simp [maxLen]; omega) (by omega) (b_1.size) ?_
          intro A_2 c_2 w_2 oa_2 g_2 l_2
          rw [← byt_append, HAT.out] at oa_2
          have kg_2 := Kept.of_grown g_2
          have or_2 := or_1.kept kg_2 (fun q hq h => nn3 q h hq)
          have nn_2 : ∀ q, at_ A_2 = some q → at_ AR ≠ some q := fun q hq h => by
            rcases l_2 with l | l
            · exact nn3 q (l ▸ hq) h
            · have := (or_1.from_ q h).2; rw [l] at hq; injection hq with hq; (first | omega | (simp at hq this; omega))
          have b_2 : Below w.heap.size w w_2 := b_1.grown g_2 (b_1.size) (fun q hq => (oa_1.from_ q hq).1)
          have k_2 : Kept KS w3 w_2 := k_1.trans kg_2 (fun j hj h => kin j (.inl h))
          refine hK.out _ _ k_2 (fun hSe => ?_)
          refine wpAnyH_ready (rs := [8]) (by kernel_rfl) (by simp) ?_
          refine AllReadyH.cons (o := _) rfl (fun K hK => ?_) AllReadyH.nil
          go_simp
          have k_3 : Kept KS w3 (w_2.alloc (.cells #[.slice A1 m c1] 33)) := k_2.alloc _
          have oa_3 := oa_2.alloc (.cells #[.slice A1 m c1] 33)
          have or_3 := or_2.alloc (.cells #[.slice A1 m c1] 33)
          have b_3 : Below w.heap.size w (w_2.alloc (.cells #[.slice A1 m c1] 33)) := b_2.alloc (b_2.size) _
          have r1_3 := r1_1.alloc (by simp) (.cells #[.slice A1 m c1] 33)
          have r2_3 := Row.lit w_2 33 #[.slice A1 m c1] 1 [.slice A1 m c1] rfl rfl
          refine hK.out _ _ k_3 (fun _ => ?_)
          refine wpAnyH_ready (rs := [9]) (by kernel_rfl) (by simp) ?_
          refine AllReadyH.cons (o := _) rfl (fun K hK => ?_) AllReadyH.nil
          rw [if_pos (by rfl)]
          refine app_wp rowsS (.tmp 50) (.tmp 53) rfl rfl or_3 rfl r2_3 (by intro u hu; simp at hu; subst hu; rfl) (by simp [maxLen]; omega) (by omega) (b_3.size) ?_
          intro A_4 c_4 w_4 or_4 g_4 l_4
          rw [HRS.out] at or_4
          have kg_4 := Kept.of_grown g_4
          have oa_4 := oa_3.kept kg_4 (fun q hq h => nn_2 q hq h)
          have nn_4 : ∀ q, at_ A_2 = some q → at_ A_4 ≠ some q := fun q hq h => by
            rcases l_4 with l | l
            · exact nn_2 q hq (l ▸ h)
            · have := (oa_3.from_ q hq).2; rw [l] at h; injection h with h; (first | omega | (simp at h this; omega))
          have b_4 : Below w.heap.size w w_4 := b_3.grown g_4 (b_3.size) (fun q hq => (or_3.from_ q hq).1)
          have k_4 : Kept KS w3 w_4 := k_3.trans kg_4 (fun j hj h => kin j (.inr h))
          refine hK.out _ _ k_4 (fun hSe => ?_)
          refine wpAnyH_take (i := 10) (v := .slice A_2 (i + 1) c_2) rfl (by kernel_rfl) (by kernel_rfl) (by kernel_rfl) (fun _ _ _ h => h) (yields_of rfl (fun w => by go_simp)) hSe ?_
          simp only [Act.put]
          refine wpAnyH_take (i := 11) (v := .slice A_4 (i + 1) c_4) rfl (by kernel_rfl) (by kernel_rfl) (by kernel_rfl) (fun _ _ _ h => h) (yields_of rfl (fun w => by go_simp)) hSe ?_
          simp only [Act.put]
          refine wpAnyH_done (by kernel_rfl) ?_ _
          have FA := hid oa_4; have FR := hid or_4; have FN := hid nn_4; have FB := hid b_4
          clear hS hSe
          go_simp
          go_wp2_with fail
          go_roundw
          case rel => exact ⟨i + 1, A_2, A_4, c_2, c_4, by omega, by go_num, rfl, rfl, FA, FR, FN, FB⟩
          case measure => simp [intOf]; omega
        · go_simp
          have k_2 : Kept KS w3 ((w3.drew.alloc (.cells #[.int .u8 (x : Int)] 5)).alloc (.cells #[.slice A1 m c1] 33)) := k_1.alloc _
          have oa_2 := oa_1.alloc (.cells #[.slice A1 m c1] 33)
          have or_2 := or_1.alloc (.cells #[.slice A1 m c1] 33)
          have b_2 : Below w.heap.size w ((w3.drew.alloc (.cells #[.int .u8 (x : Int)] 5)).alloc (.cells #[.slice A1 m c1] 33)) := b_1.alloc (b_1.size) _
          have r1_2 := r1_1.alloc (by simp) (.cells #[.slice A1 m c1] 33)
          have r2_2 := Row.lit (w3.drew.alloc (.cells #[.int .u8 (x : Int)] 5)) 33 #[.slice A1 m c1] 1 [.slice A1 m c1] rfl rfl
          rw [show ((w3.drew.alloc (.cells #[.int .u8 (x : Int)] 5))).heap.size = w3.heap.size + 1 by simp] at r2_2
          refine hK.out _ _ k_2 (fun _ => ?_)
          refine wpAnyH_ready (rs := [4]) (by kernel_rfl) (by simp) ?_
          refine AllReadyH.cons (o := _) rfl (fun K hK => ?_) AllReadyH.nil
          rw [if_pos (by rfl)]
          refine app_wp bytW (.tmp 45) (.tmp 48) rfl rfl oa_2 rfl r1_2 (byt_one _) (by simp [maxLen]; omega) (by omega) (b_2.size) ?_
          intro A_3 c_3 w_3 oa_3 g_3 l_3
          rw [← byt_append, HAT.out] at oa_3
          have kg_3 := Kept.of_grown g_3
          have or_3 := or_2.kept kg_3 (fun q hq h => nn3 q h hq)
          have nn_3 : ∀ q, at_ A_3 = some q → at_ AR ≠ some q := fun q hq h => by
            rcases l_3 with l | l
            · exact nn3 q (l ▸ hq) h
            · have := (or_2.from_ q h).2; rw [l] at hq; injection hq with hq; (first | omega | (simp at hq this; omega))
          have b_3 : Below w.heap.size w w_3 := b_2.grown g_3 (b_2.size) (fun q hq => (oa_2.from_ q hq).1)
          have k_3 : Kept KS w3 w_3 := k_2.trans kg_3 (fun j hj h => kin j (.inl h))
          have r2_3 := r2_2.kept (by simp) kg_3 (fun q hq hq2 h => by have h1 : _ = q := Option.some.inj hq; have := (oa3d.from_ q h).2; have e4 := h1; (first | omega | (simp at e4 this; omega) | (simp at e4; omega) | (simp at this; omega)))
          refine hK.out _ _ k_3 (fun hSe => ?_)
          refine wpAnyH_ready (rs := [9]) (by kernel_rfl) (by simp) ?_
          refine AllReadyH.cons (o := _) rfl (fun K hK => ?_) AllReadyH.nil
          rw [if_pos (by rfl)]
          refine app_wp rowsS (.tmp 50) (.tmp 53) rfl rfl or_3 rfl r2_3 (by intro u hu; simp at hu; subst hu; rfl) (by simp [maxLen]; omega) (by omega) (b_3.size) ?_
          intro A_4 c_4 w_4 or_4 g_4 l_4
          rw [HRS.out] at or_4
          have kg_4 := Kept.of_grown g_4
          have oa_4 := oa_3.kept kg_4 (fun q hq h => nn_3 q hq h)
          have nn_4 : ∀ q, at_ A_3 = some q → at_ A_4 ≠ some q := fun q hq h => by
            rcases l_4 with l | l
            · exact nn_3 q hq (l ▸ h)
            · have := (oa_3.from_ q hq).2; rw [l] at h; injection h with h; (first | omega | (simp at h this; omega))
          have b_4 : Below w.heap.size w w_4 := b_3.grown g_4 (b_3.size) (fun q hq => (or_3.from_ q hq).1)
          have k_4 : Kept KS w3 w_4 := k_3.trans kg_4 (fun j hj h => kin j (.inr h))
          refine hK.out _ _ k_4 (fun hSe => ?_)
          refine wpAnyH_take (i := 10) (v := .slice A_3 (i + 1) c_3) rfl (by kernel_rfl) (by kernel_rfl) (by kernel_rfl) (fun _ _ _ h => h) (yields_of rfl (fun w => by go_simp)) hSe ?_
          simp only [Act.put]
          refine wpAnyH_take (i := 11) (v := .slice A_4 (i + 1) c_4) rfl (by kernel_rfl) (by kernel_rfl) (by kernel_rfl) (fun _ _ _ h => h) (yields_of rfl (fun w => by go_simp)) hSe ?_
          simp only [Act.put]
          refine wpAnyH_done (by kernel_rfl) ?_ _
          have FA := hid oa_4; have FR := hid or_4; have FN := hid nn_4; have FB := hid b_4
          clear hS hSe
          go_simp
          go_wp2_with fail
          go_roundw
          case rel => exact ⟨i + 1, A_3, A_4, c_3, c_4, by omega, by go_num, rfl, rfl, FA, FR, FN, FB⟩
          case measure => simp [intOf]; omega
      · go_simp
        have k_1 : Kept KS w3 (w3.drew.alloc (.cells #[.slice A1 m c1] 33)) := k3d.alloc _
        have oa_1 := oa3d.alloc (.cells #[.slice A1 m c1] 33)
        have or_1 := or3d.alloc (.cells #[.slice A1 m c1] 33)
        have b_1 : Below w.heap.size w (w3.drew.alloc (.cells #[.slice A1 m c1] 33)) := b3d.alloc (b3d.size) _
        have r2_1 := Row.lit w3.drew 33 #[.slice A1 m c1] 1 [.slice A1 m c1] rfl rfl
        refine hK.out _ _ k_1 (fun _ => ?_)
        refine wpAnyH_ready (rs := [3]) (by kernel_rfl) (by simp) ?_
        refine AllReadyH.cons (o := _) rfl (fun K hK => ?_) AllReadyH.nil
        go_simp
        have k_2 : Kept KS w3 ((w3.drew.alloc (.cells #[.slice A1 m c1] 33)).alloc (.cells #[.int .u8 (x : Int)] 5)) := k_1.alloc _
        have oa_2 := oa_1.alloc (.cells #[.int .u8 (x : Int)] 5)
        have or_2 := or_1.alloc (.cells #[.int .u8 (x : Int)] 5)
        have b_2 : Below w.heap.size w ((w3.drew.alloc (.cells #[.slice A1 m c1] 33)).alloc (.cells #[.int .u8 (x : Int)] 5)) := b_1.alloc (b_1.size) _
        have r2_2 := r2_1.alloc (by simp) (.cells #[.int .u8 (x : Int)] 5)
        have r1_2 := Row.lit (w3.drew.alloc (.cells #[.slice A1 m c1] 33)) 5 #[.int .u8 (x : Int)] 1 (byt [x]) rfl rfl
        rw [show ((w3.drew.alloc (.cells #[.slice A1 m c1] 33))).heap.size = w3.heap.size + 1 by simp] at r1_2
        refine hK.out _ _ k_2 (fun _ => ?_)
        refine wpAnyH_ready (rs := [4]) (by kernel_rfl) (by simp) ?_
        refine AllReadyH.cons (o := _) rfl (fun K hK => ?_) AllReadyH.nil
        rw [if_pos (by rfl)]
        refine app_wp bytW (.tmp 45) (.tmp 48) rfl rfl oa_2 rfl r1_2 (byt_one _) (by simp [maxLen]; omega) (by omega) (b_2.size) ?_
        intro A_3 c_3 w_3 oa_3 g_3 l_3
        rw [← byt_append, HAT.out] at oa_3
        have kg_3 := Kept.of_grown g_3
        have or_3 := or_2.kept kg_3 (fun q hq h => nn3 q h hq)
        have nn_3 : ∀ q, at_ A_3 = some q → at_ AR ≠ some q := fun q hq h => by
          rcases l_3 with l | l
          · exact nn3 q (l ▸ hq) h
          · have := (or_2.from_ q h).2; rw [l] at hq; injection hq with hq; (first | omega | (simp at hq this; omega))
        have b_3 : Below w.heap.size w w_3 := b_2.grown g_3 (b_2.size) (fun q hq => (oa_2.from_ q hq).1)
        have k_3 : Kept KS w3 w_3 := k_2.trans kg_3 (fun j hj h => kin j (.inl h))
        have r2_3 := r2_2.kept (by simp) kg_3 (fun q hq hq2 h => by have h1 : _ = q := Option.some.inj hq; have := (oa3d.from_ q h).2; have e4 := h1; (first | omega | (simp at e4 this; omega) | (simp at e4; omega) | (simp at this; omega)))
        refine hK.out _ _ k_3 (fun hSe => ?_)
        refine wpAnyH_ready (rs := [9]) (by kernel_rfl) (by simp) ?_
        refine AllReadyH.cons (o := _) rfl (fun K hK => ?_) AllReadyH.nil
        rw [if_pos (by rfl)]
        refine app_wp rowsS (.tmp 50) (.tmp 53) rfl rfl or_3 rfl r2_3 (by intro u hu; simp at hu; subst hu; rfl) (by simp [maxLen]; omega) (by omega) (b_3.size) ?_
        intro A_4 c_4 w_4 or_4 g_4 l_4
        rw [HRS.out] at or_4
        have kg_4 := Kept.of_grown g_4
        have oa_4 := oa_3.kept kg_4 (fun q hq h => nn_3 q hq h)
        have nn_4 : ∀ q, at_ A_3 = some q → at_ A_4 ≠ some q := fun q hq h => by
          rcases l_4 with l | l
          · exact nn_3 q hq (l ▸ h)
          · have := (oa_3.from_ q hq).2; rw [l] at h; injection h with h; (first | omega | (simp at h this; omega))
        have b_4 : Below w.heap.size w w_4 := b_3.grown g_4 (b_3.size) (fun q hq => (or_3.from_ q hq).1)
        have k_4 : Kept KS w3 w_4 := k_3.trans kg_4 (fun j hj h => kin j (.inr h))
        refine hK.out _ _ k_4 (fun hSe => ?_)
        refine wpAnyH_take (i := 10) (v := .slice A_3 (i + 1) c_3) rfl (by kernel_rfl) (by kernel_rfl) (by kernel_rfl) (fun _ _ _ h => h) (yields_of rfl (fun w => by go_simp)) hSe ?_
        simp only [Act.put]
        refine wpAnyH_take (i := 11) (v := .slice A_4 (i + 1) c_4) rfl (by kernel_rfl) (by kernel_rfl) (by kernel_rfl) (fun _ _ _ h => h) (yields_of rfl (fun w => by go_simp)) hSe ?_
        simp only [Act.put]
        refine wpAnyH_done (by kernel_rfl) ?_ _
        have FA := hid oa_4; have FR := hid or_4; have FN := hid nn_4; have FB := hid b_4
        clear hS hSe
        go_simp
        go_wp2_with fail
        go_roundw
        case rel => exact ⟨i + 1, A_3, A_4, c_3, c_4, by omega, by go_num, rfl, rfl, FA, FR, FN, FB⟩
        case measure => simp [intOf]; omega
    · have hin : i = n := by omega
      subst hin
      have i2 : ¬ (i : Int) < (i : Int) := by omega
      have hta : (L.map (·.1)).take i = L.map (·.1) := List.take_of_length_le (by rw [List.length_map, HL.out]; exact Nat.le_refl _)
      rw [hta] at HA
      have hMat : Mat wr wr.heap.size AR i (L.map (·.2)) := by
        refine ⟨rsN es i, Row.of_own (unhid HR), by rw [List.length_map, HL.out], fun q r hq => ?_⟩
        rw [List.getElem?_map] at hq
        cases hLq : L[q]? with
        | none => rw [hLq] at hq; simp at hq
        | some p =>
          rw [hLq] at hq
          obtain ⟨px, pd⟩ := p
          simp only [Option.map_some, Option.some.injEq] at hq
          subst hq
          obtain ⟨A', c', f1, f2, f3⟩ := HES.out q px pd hLq
          have hqi : q < i := by have := (List.getElem?_eq_some_iff.1 hLq).1; rw [HL.out] at this; exact this
          refine ⟨A', c', ?_, f2, (f3.below ((unhid HB).mono hD)).more (Nat.le_trans hD bs)⟩
          simp only [rsN, List.getElem?_map, List.getElem?_range hqi, Option.map_some, List.getD_eq_getElem?_getD, f1, Option.getD_some]
      have TH := hid (through_any (L.map (·.1)) (L.map (·.2)) 0 AA AR i cA cR wr.heap.size m wr (Row.of_own (unhid HA)) hMat (Nat.le_refl _) (by omega) h1 hm
        (fun y hy => by obtain ⟨p, hp, rfl⟩ := List.mem_map.1 hy; exact (HP.out p hp).2.1)
        (fun y hy => by obtain ⟨p, hp, rfl⟩ := List.mem_map.1 hy; exact (HP.out p hp).2.2.2)
        (fun y hy => by obtain ⟨p, hp, rfl⟩ := List.mem_map.1 hy; exact (HP.out p hp).2.2.1) (by decide))
      clear hMat hta
      go_wp2_with fail
      refine (unhid TH).mono ?_
      rintro e w' ⟨A2, rfl, r2, hb2⟩
      have R2 := hid r2; have F2 := hid ((unhid HB).trans (hb2.mono bs))
      clear r2 hb2 TH
      go_wp2_with fail
      go_ret2
      exact ⟨A2, rfl, unhid R2, unhid F2⟩
end Go.Proofs.YtilaipdpbcfhkaaDoor

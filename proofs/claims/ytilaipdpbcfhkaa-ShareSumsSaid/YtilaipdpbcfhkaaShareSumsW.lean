/- The walk of the law ShareSums. -/
import Derived.Test.YtilaipdpbcfhkaaShareEnoughW
namespace Go.Proofs.Ytilaipdpbcfhkaa
set_option linter.unusedVariables false
open Go.RowKit Go.Mny
theorem split_ok {s : Nat} {a : Int} {M : List (List Nat)} (h : splitE s a M = 0) : ∃ k : Nat, a = k ∧ 1 ≤ k ∧ k ≤ 20 ∧ s ≤ 100 ∧ M.length ≤ 20 ∧ ∀ m ∈ M, m.length = s := by
  unfold splitE at h
  have h1 : ¬ (a < 1 ∨ 20 < a) := fun h' => by rw [if_pos h'] at h; cases h
  rw [if_neg h1] at h
  have h2 : ¬ (100 < s ∨ 20 < M.length) := fun h' => by rw [if_pos h'] at h; cases h
  rw [if_neg h2] at h
  have h3 : (M.all fun m => decide (m.length = s)) = true := by
    by_cases h' : (M.all fun m => decide (m.length = s)) = true
    · exact h'
    · rw [if_neg h'] at h; cases h
  obtain ⟨k, rfl⟩ := Int.eq_ofNat_of_zero_le (show 0 ≤ a by omega)
  exact ⟨k, rfl, by omega, by omega, by omega, by omega, fun m hm => of_decide_eq_true (List.all_eq_true.1 h3 m hm)⟩
theorem padd_getD : ∀ (c d : List Nat) (k : Nat), (Fld.padd c d).getD k 0 = c.getD k 0 ^^^ d.getD k 0
  | [], d, k => by simp [Fld.padd]
  | a :: c, [], k => by simp [Fld.padd]
  | a :: c, b :: d, 0 => by simp [Fld.padd]
  | a :: c, b :: d, k + 1 => by
    simp only [Fld.padd, List.getD_cons_succ]
    exact padd_getD c d k
theorem col_padd (k : Nat) : ∀ P Q : List (List Nat), P.length = Q.length → col (List.zipWith Fld.padd P Q) k = Fld.padd (col P k) (col Q k)
  | [], [], _ => rfl
  | [], q :: Q, h => by simp at h
  | p :: P, [], h => by simp at h
  | p :: P, q :: Q, h => by
    have ih := col_padd k P Q (by simpa using h)
    unfold col at ih ⊢
    simp only [List.zipWith_cons_cons, List.map_cons, Fld.padd, ih, padd_getD]
theorem sum_ev (a b : List Nat) (P Q : List (List Nat)) (k x : Nat) (ha : By8s a) (hb : By8s b) (hP : ∀ m ∈ P, By8s m) (hQ : ∀ m ∈ Q, By8s m) (hl : P.length = Q.length) :
    Fld.ev ((Fld.padd a b).getD k 0 :: col (List.zipWith Fld.padd P Q) k) x = Fld.ev (a.getD k 0 :: col P k) x ^^^ Fld.ev (b.getD k 0 :: col Q k) x := by
  rw [col_padd k P Q hl, padd_getD]
  refine Fld.ev_padd x (a.getD k 0 :: col P k) (b.getD k 0 :: col Q k) ?_ ?_
  · intro z hz
    rcases List.mem_cons.1 hz with rfl | hz
    · exact getD_by ha k
    · exact col_by hP k z hz
  · intro z hz
    rcases List.mem_cons.1 hz with rfl | hz
    · exact getD_by hb k
    · exact col_by hQ k z hz
theorem zip_mem {P Q : List (List Nat)} {r : List Nat} (h : r ∈ List.zipWith Fld.padd P Q) : ∃ p ∈ P, ∃ q ∈ Q, r = Fld.padd p q := by
  obtain ⟨i, hi, rfl⟩ := List.getElem_of_mem h
  rw [List.length_zipWith] at hi
  exact ⟨P[i]'(by omega), List.getElem_mem _, Q[i]'(by omega), List.getElem_mem _, by rw [List.getElem_zipWith]⟩
theorem datN_get {sec : List Nat} {M : List (List Nat)} {x j k : Nat} (h : k < j) : (datN sec M x j)[k]? = some (Fld.ev (sec.getD k 0 :: col M k) x) := by
  unfold datN
  rw [List.getElem?_map, List.getElem?_range h]; rfl
theorem splitN_get {sec : List Nat} {M : List (List Nat)} {n i : Nat} (h : i < n) : (splitN sec M n)[i]? = some (i + 1, datN sec M (i + 1) sec.length) := by
  unfold splitN
  rw [List.getElem?_map, List.getElem?_range h]; rfl
theorem split_weak (sec : List Nat) (M : List (List Nat)) (A A' : Option Addr) (s c n' c' D : Nat) (a : Int) (w : World) (hr : Row w D 1 A s (byt sec)) (hM : Mat w D A' n' M) (hD : D ≤ w.heap.size) (s8 : By8s sec) (m8 : ∀ m ∈ M, By8s m) (hn' : n' ≤ 9223372036854775807) :
    Calls Try.prog 17 #[.slice A s c, .int .i64 a, .slice A' n' c'] w fun e w' => (∃ v u, e = .returned (.tuple #[v, u])) ∧ Below w.heap.size w w' := by
  by_cases he : splitE s a M = 0
  · obtain ⟨k, rfl, k1, k2, k3, k4, k5⟩ := split_ok he
    have hml : M.length = n' := by obtain ⟨_, _, h, _⟩ := hM; exact h
    refine (split_yes sec M A A' s c n' c' D k w hr hM hD s8 m8 k1 k2 k3 (by omega) k5).mono ?_
    rintro e w' ⟨X, cx, rfl, _, hb⟩
    exact ⟨⟨_, _, rfl⟩, hb⟩
  · refine (split_no M A A' s c n' c' D a w hM (by omega) he).mono ?_
    rintro e w' ⟨rfl, rfl⟩
    exact ⟨⟨_, _, rfl⟩, Below.refl _ _⟩
set_option maxHeartbeats 4000000 in
set_option maxRecDepth 100000 in
theorem shareSums_walk (A0 : Option Addr) (n0 c0 : Nat) (l0 : List Int) (A1 : Option Addr) (n1 c1 : Nat) (l1 : List Int) (a2 : Int) (A3 : Option Addr) (n3 c3 m3 : Nat) (A4 : Option Addr) (n4 c4 m4 : Nat) (w : World) (b0 : n0 ≤ c0) (g0 : c0 ≤ maxLen) (r0 : Row w w.heap.size 1 A0 n0 (l0.map (Value.int .u8))) (f0 : ∀ z ∈ l0, (Lit.int .u8 z).wf = true) (b1 : n1 ≤ c1) (g1 : c1 ≤ maxLen) (r1 : Row w w.heap.size 1 A1 n1 (l1.map (Value.int .u8))) (f1 : ∀ z ∈ l1, (Lit.int .u8 z).wf = true) (f2 : (Lit.int .i64 a2).wf = true) (s3 : Sh.ok w w.heap.size (.slice 1 (.slice 1 (.int .u8))) m3 [.slice A3 n3 c3]) (s4 : Sh.ok w w.heap.size (.slice 1 (.slice 1 (.int .u8))) m4 [.slice A4 n4 c4]) :
    Calls Try.prog 8 #[.slice A0 n0 c0, .slice A1 n1 c1, .int .i64 a2, .slice A3 n3 c3, .slice A4 n4 c4] w fun e w' => e = .returned (.bool true) ∧ Below w.heap.size w w' := by
  have hn3 : n3 ≤ 9223372036854775807 := by
    obtain ⟨A, n, c, es, f, hv, h1, h2, _⟩ := s3
    simp only [List.cons.injEq, Value.slice.injEq, and_true] at hv
    obtain ⟨_, rfl, rfl⟩ := hv
    unfold maxLen at h2; omega
  have hn4 : n4 ≤ 9223372036854775807 := by
    obtain ⟨A, n, c, es, f, hv, h1, h2, _⟩ := s4
    simp only [List.cons.injEq, Value.slice.injEq, and_true] at hv
    obtain ⟨_, rfl, rfl⟩ := hv
    unfold maxLen at h2; omega
  have hn0 : n0 ≤ 9223372036854775807 := by unfold maxLen at g0; omega
  have hn1 : n1 ≤ 9223372036854775807 := by unfold maxLen at g1; omega
  obtain ⟨A, n, c, P, hv, hc1, hP, p8, hm⟩ := Sh.mat s3
  injection hv with e1 e2 e3
  subst e1 e2 e3
  obtain ⟨A, n, c, Q, hv, hc2, hQ, q8, hm2⟩ := Sh.mat s4
  injection hv with e1 e2 e3
  subst e1 e2 e3
  obtain ⟨q1, q2⟩ := nats_byt f0
  obtain ⟨q3, q4⟩ := nats_byt f1
  rw [q1] at r0
  rw [q3] at r1
  obtain ⟨a, ha⟩ : ∃ b, l0.map Int.toNat = b := ⟨_, rfl⟩
  obtain ⟨b, hbb⟩ : ∃ b, l1.map Int.toNat = b := ⟨_, rfl⟩
  rw [ha] at r0 q2
  rw [hbb] at r1 q4
  have hal : a.length = n0 := by have := r0.len; rw [byt_len] at this; omega
  have hbl : b.length = n1 := by have := r1.len; rw [byt_len] at this; omega
  have R0 := hid r0; have R1 := hid r1; have HP := hid hP; have HQ := hid hQ; have Ha8 := hid q2; have Hb8 := hid q4; have P8 := hid p8; have Q8 := hid q8; have HAL := hid hal; have HBL := hid hbl
  clear s3 s4 hP hQ p8 q8 hm hm2 hc1 hc2 f0 f1 f2 q1 q2 q3 q4 r0 r1 ha hbb hal hbl g0 g1 b0 b1
  obtain ⟨er, her⟩ : ∃ e, splitE n0 a2 P = e := ⟨_, rfl⟩
  obtain ⟨es, hes⟩ : ∃ e, splitE n1 a2 Q = e := ⟨_, rfl⟩
  have HER := hid her; have HES := hid hes
  clear her hes
  go_enter Try.func8, Try.ntmps8
  go_wp2_with fail
  refine (split_fact _).mono ?_
  rintro e w1 ⟨rfl, hb1⟩
  have E1 := hid hb1
  clear hb1
  by_cases he : er = 0
  rotate_left
  · have NO := hid (split_no P A0 A3 n0 c0 n3 c3 _ a2 w1 ((unhid HP).below (unhid E1)) (by omega) (by rw [HER.out]; exact he))
    rw [HER.out] at NO
    have SW := hid (split_weak b Q A1 A4 n1 c1 n4 c4 _ a2 w1 ((unhid R1).below (unhid E1)) ((unhid HQ).below (unhid E1)) (unhid E1).size Hb8.out Q8.out hn4)
    clear he
    go_wp2_with fail
    refine (unhid NO).mono ?_
    rintro e w' ⟨rfl, rfl⟩
    go_wp2_with fail
    refine (unhid SW).mono ?_
    rintro e w3 ⟨⟨v, u, rfl⟩, hb3⟩
    have E3 := hid ((unhid E1).trans (hb3.mono (unhid E1).size))
    clear hb3
    go_wp2_with fail
    go_ret
    exact ⟨rfl, unhid E3⟩
  subst he
  obtain ⟨n, rfl, k1, k2, k3, k4, k5⟩ := split_ok HER.out
  have hpl : P.length = n3 := by obtain ⟨_, _, h, _⟩ := unhid HP; exact h
  have K5 := hid k5; have HPL := hid hpl
  have S1 := hid (split_yes a P A0 A3 n0 c0 n3 c3 _ n w1 ((unhid R0).below (unhid E1)) ((unhid HP).below (unhid E1)) (unhid E1).size Ha8.out P8.out k1 k2 k3 (by omega) k5)
  clear HER k5 hpl k4
  go_wp2_with fail
  refine (unhid S1).mono ?_
  rintro e w2 ⟨AX, cX, rfl, sX, hb2⟩
  have hxl := splitN_len a P n
  have X2 := ShR.of_shs sX
  rw [hxl] at X2 ⊢
  have X2 := hid X2
  have E2 := hid ((unhid E1).trans (hb2.mono (unhid E1).size))
  clear sX hb2 S1 hxl E1
  by_cases he : es = 0
  rotate_left
  · have NO := hid (split_no Q A1 A4 n1 c1 n4 c4 _ (n : Int) w2 ((unhid HQ).below (unhid E2)) (by omega) (by rw [HES.out]; exact he))
    rw [HES.out] at NO
    clear he
    go_wp2_with fail
    refine (unhid NO).mono ?_
    rintro e w' ⟨rfl, rfl⟩
    go_wp2_with fail
    go_ret
    exact ⟨rfl, unhid E2⟩
  subst he
  obtain ⟨n', hn', k1', k2', k3', k4', k5'⟩ := split_ok HES.out
  have hql : Q.length = n4 := by obtain ⟨_, _, h, _⟩ := unhid HQ; exact h
  have K6 := hid k5'; have HQL := hid hql
  have S2 := hid (split_yes b Q A1 A4 n1 c1 n4 c4 _ n w2 ((unhid R1).below (unhid E2)) ((unhid HQ).below (unhid E2)) (unhid E2).size Hb8.out Q8.out k1 k2 k3' (by omega) k5')
  clear HES k5' hql k4' hn' k1' k2'
  go_wp2_with fail
  refine (unhid S2).mono ?_
  rintro e w4 ⟨AY, cY, rfl, sY, hb4⟩
  have hyl := splitN_len b Q n
  have Y4 := ShR.of_shs sY
  rw [hyl] at Y4 ⊢
  have Y4 := hid Y4
  have E4 := hid ((unhid E2).trans (hb4.mono (unhid E2).size))
  have X4 := (unhid X2).below hb4
  have X4 : Hid (ShR w4 w4.heap.size AX n (splitN a P n)) := hid (by
    obtain ⟨es, h1, h2, h3⟩ := X4
    exact ⟨es, h1.more hb4.size, h2, fun i x d hi => by obtain ⟨A', c', e1, e2, e3, e4⟩ := h3 i x d hi; exact ⟨A', c', e1, e2, e3, e4.more hb4.size⟩⟩)
  clear sY hb4 S2 hyl X2 E2
  by_cases t1 : n0 = n1
  rotate_left
  · have t2 : ((n0 : Int) != (n1 : Int)) = true := by simp; omega
    clear t1
    go_wp2_with fail
    go_ret
    exact ⟨rfl, unhid E4⟩
  subst t1
  by_cases t1 : n3 = n4
  rotate_left
  · have t2 : ((n3 : Int) != (n4 : Int)) = true := by simp; omega
    clear t1
    go_wp2_with fail
    go_ret
    exact ⟨rfl, unhid E4⟩
  subst t1
  by_cases t1 : (n : Int) ≤ (n3 : Int)
  · go_wp2_with fail
    go_ret
    exact ⟨rfl, unhid E4⟩
  have t2 : decide (n ≤ n3) = false := by simp; omega
  go_wp2_with fail
  have HT1 : Hid (n3 + 1 ≤ n) := hid (by omega)
  clear t1 t2
  obtain ⟨T, hT⟩ : ∃ T, Fld.padd a b = T := ⟨_, rfl⟩
  obtain ⟨U, hU⟩ : ∃ U, List.zipWith Fld.padd P Q = U := ⟨_, rfl⟩
  have hUl : U.length = n3 := by rw [← hU, List.length_zipWith, HPL.out, HQL.out]; omega
  have hTl : T.length = n0 := by rw [← hT, Fld.padd_length, HAL.out, HBL.out]; omega
  have T8 : Hid (By8s T) := hid (by rw [← hT]; exact Fld.padd_by a b Ha8.out Hb8.out)
  have U8 : Hid (∀ r ∈ U, By8s r) := hid (by
    rw [← hU]
    intro r hr
    obtain ⟨p, hp, q, hq, rfl⟩ := zip_mem hr
    exact Fld.padd_by p q (P8.out p hp) (Q8.out q hq))
  have HEV : Hid (∀ k x, Fld.ev (T.getD k 0 :: col U k) x = Fld.ev (a.getD k 0 :: col P k) x ^^^ Fld.ev (b.getD k 0 :: col Q k) x) := hid fun k x => by
    rw [← hT, ← hU]; exact sum_ev a b P Q k x Ha8.out Hb8.out P8.out Q8.out (by rw [HPL.out, HQL.out])
  have HGT : Hid (∀ k, T.getD k 0 = a.getD k 0 ^^^ b.getD k 0) := hid fun k => by rw [← hT]; exact padd_getD a b k
  have HUL := hid hUl; have HTL := hid hTl
  have hw4 := (unhid E4).size
  clear hT hU hUl hTl
  go_loopw [16, 17] (fun v16 v17 wr => ∃ (i : Nat) (AO : Option Addr) (cO : Nat), i ≤ n ∧ v17 = .int .i64 i ∧ v16 = .slice AO i cO ∧ Hid (Shs wr w4.heap.size 41 5 AO i cO (splitN T U i)) ∧ Hid (Below w4.heap.size w4 wr)) (fun _ v17 _ => n - (intOf v17).toNat)
  case atStart => exact ⟨0, none, 0, Nat.zero_le _, rfl, rfl, hid ⟨[], Own.none _ _ _ _, rfl, fun i x d h => by simp [splitN] at h⟩, Below.refl _ _⟩
  case round =>
    obtain ⟨i, AO, cO, hi, rfl, rfl, HO, HB⟩ := hrel
    by_cases hin : i < n
    · obtain ⟨wk, hwk⟩ : ∃ wk : World, wk = wr := ⟨_, rfl⟩
      rw [← hwk] at HO HB
      rw [← hwk]
      clear hwk
      have i1 : (0 : Int) ≤ (i : Int) := by omega
      have i2 : (i : Int) < (n : Int) := by omega
      have hz := (unhid HB).size
      obtain ⟨gx, ox, Aa, ca, rfl, hgx, xq0, xq1, _, xrow⟩ := (unhid X4).at hin (splitN_get hin)
      obtain ⟨gy, oy, Ab, cb, rfl, hgy, yq0, yq1, _, yrow⟩ := (unhid Y4).at hin (splitN_get hin)
      rw [datN_len, HAL.out] at xq1 xrow
      rw [datN_len, HBL.out] at yq1 yrow
      rw [show ((i + 1 : Nat) : Int) = (i : Int) + 1 by omega] at xq0
      have xat := ((unhid HB).cell (p := ⟨gx, ox + i * 2, none⟩) hgx).trans xq0
      have XR := hid xrow; have YR := hid yrow
      have XC : Hid (∀ W, Below w4.heap.size w4 W → W.cell? ⟨gx, ox + i * 2 + 1, none⟩ = some (.slice Aa n0 ca) ∧ W.cell? ⟨gy, oy + i * 2 + 1, none⟩ = some (.slice Ab n0 cb)) := hid fun W hW =>
        ⟨(hW.cell (p := ⟨gx, ox + i * 2 + 1, none⟩) hgx).trans xq1, (hW.cell (p := ⟨gy, oy + i * 2 + 1, none⟩) hgy).trans yq1⟩
      clear xrow yrow xq0 xq1 yq0 yq1
      go_wp2_with fail
      have BS := hid (Blk.new wk 41 #[.int .u8 ((i : Int) + 1), .slice none 0 0])
      have E1 := hid ((Below.refl wk.heap.size wk).alloc (Nat.le_refl _) (.cells #[.int .u8 ((i : Int) + 1), .slice none 0 0] 41))
      have hsz : (wk.alloc (.cells #[.int .u8 ((i : Int) + 1), .slice none 0 0] 41)).heap.size = wk.heap.size + 1 := by simp
      generalize wk.alloc (.cells #[.int .u8 ((i : Int) + 1), .slice none 0 0] 41) = w1' at BS E1 hsz ⊢
      have hg1 : wk.heap.size < w1'.heap.size := by omega
      clear hsz xat
      obtain ⟨gs, hgs⟩ : ∃ gs, wk.heap.size = gs := ⟨_, rfl⟩
      have hgs2 := hid hgs
      rw [hgs] at BS E1 hz hg1
      rw [hgs]
      clear hgs
      go_loopw [19] (fun v19 wr => ∃ (k : Nat) (AD : Option Addr) (cD : Nat), k ≤ n0 ∧ v19 = .int .i64 k ∧ Hid (Blk wr gs 41 #[.int .u8 ((i : Int) + 1), .slice AD k cD]) ∧ Hid (Mny.Own wr (gs + 1) 5 1 AD k cD (byt (datN T U (i + 1) k))) ∧ Hid (Below gs wk wr)) (fun v19 _ => n0 - (intOf v19).toNat)
      case atStart => exact ⟨0, none, 0, Nat.zero_le _, rfl, BS, Own.none _ _ _ _, E1⟩
      case round =>
        obtain ⟨k, AD, cD, hk, rfl, HS, HD', HE⟩ := hrel
        have hgr := (unhid HS).lt'
        have hEr := hid (((unhid HB).trans ((unhid HE).mono hz)))
        by_cases hkn : k < n0
        · obtain ⟨ga, oa, xa, rfl, hga, hxa, hca⟩ := (unhid XR).byte hkn
          obtain ⟨gb, ob, xb, rfl, hgb, hxb, hcb⟩ := (unhid YR).byte hkn
          rw [datN_get hkn] at hxa
          rw [datN_get hkn] at hxb
          have vxa : Fld.ev (a.getD k 0 :: col P k) (i + 1) = xa := by injection hxa
          have vxb : Fld.ev (b.getD k 0 :: col Q k) (i + 1) = xb := by injection hxb
          have xa8 : xa < 256 := by
            rw [← vxa]; refine Fld.ev_lt _ _ fun z hz => ?_
            rcases List.mem_cons.1 hz with rfl | hz
            · exact getD_by Ha8.out k
            · exact col_by P8.out k z hz
          have xb8 : xb < 256 := by
            rw [← vxb]; refine Fld.ev_lt _ _ fun z hz => ?_
            rcases List.mem_cons.1 hz with rfl | hz
            · exact getD_by Hb8.out k
            · exact col_by Q8.out k z hz
          have hdat := datN_succ T U (i + 1) k
          rw [HEV.out, vxa, vxb] at hdat
          obtain ⟨v, hv⟩ : ∃ v, xa ^^^ xb = v := ⟨_, rfl⟩
          rw [hv] at hdat
          have HDAT := hid hdat
          have CA : Hid (∀ w', Calls Try.prog 12 #[.int .u8 (xa : Int), .int .u8 (xb : Int)] w' fun e w'' => e = .returned (.int .u8 (v : Nat)) ∧ w' = w'') := hid fun w' => by
            have := add_any xa xb w' xa8 xb8
            rwa [hv] at this
          have C0 : Hid (∀ W, Below gs wr W → W.cell? ⟨gx, ox + i * 2 + 1, none⟩ = some (.slice (some ⟨ga, oa, none⟩) n0 ca) ∧ W.cell? ⟨ga, oa + k, none⟩ = some (.int .u8 (xa : Int)) ∧ W.cell? ⟨gy, oy + i * 2 + 1, none⟩ = some (.slice (some ⟨gb, ob, none⟩) n0 cb) ∧ W.cell? ⟨gb, ob + k, none⟩ = some (.int .u8 (xb : Int))) := hid fun W hW => by
            have h4 := (unhid hEr).trans (hW.mono hz)
            exact ⟨(XC.out W h4).1, (h4.cell (p := ⟨ga, oa + k, none⟩) hga).trans hca, (XC.out W h4).2, (h4.cell (p := ⟨gb, ob + k, none⟩) hgb).trans hcb⟩
          have i3 : (0 : Int) ≤ (k : Int) := by omega
          have i4 : (k : Int) < (n0 : Int) := by omega
          have BL : Hid (∀ W, Below wr.heap.size wr W → Blk W gs 41 #[.int .u8 ((i : Int) + 1), .slice AD k cD]) := hid fun W hb => (unhid HS).below hb hgr
          have hbd : Below wr.heap.size wr wr.drew := (Below.refl _ _).drew
          have c1 := ((unhid BL) _ hbd).cell 1
          simp at c1
          clear hxa hxb hca hcb vxa vxb xa8 xb8 hdat hv HS
          go_wp2_with fail
          refine wp_region_held_drew (S := fun w' => Below gs wr w') (by kernel_rfl) (Below.refl _ _).drew (fun hS => ?_)
          refine wpAnyH_take (i := 0) (v := .pointer (some ⟨gs, 1, none⟩)) rfl (by kernel_rfl) (by kernel_rfl) (by kernel_rfl) (fun _ _ _ h => h) (yields_of rfl (fun w => by go_simp)) hS ?_
          simp only [Act.put, List.setIfInBounds_toArray]
          refine wpAnyH_take (i := 2) (v := .slice (some ⟨gx, ox, none⟩) n cX) rfl (by kernel_rfl) (by kernel_rfl) (by kernel_rfl) (fun _ _ _ h => h) (yields_of rfl (fun w => by go_simp)) hS ?_
          simp only [Act.put]
          refine wpAnyH_take (i := 3) (v := .int .i64 (i : Int)) rfl (by kernel_rfl) (by kernel_rfl) (by kernel_rfl) (fun _ _ _ h => h) (yields_of rfl (fun w => by go_simp)) hS ?_
          simp only [Act.put]
          refine wpAnyH_take (i := 4) (v := .pointer (some ⟨gx, ox + i * 2, none⟩)) rfl (by kernel_rfl) (by kernel_rfl) (by kernel_rfl) (fun _ _ _ h => h) (yields_of rfl (fun w => by go_simp)) hS ?_
          simp only [Act.put]
          refine wpAnyH_take (i := 5) (v := .pointer (some ⟨gx, ox + i * 2 + 1, none⟩)) rfl (by kernel_rfl) (by kernel_rfl) (by kernel_rfl) (fun _ _ _ h => h) (yields_of rfl (fun w => by go_simp)) hS ?_
          simp only [Act.put]
          refine wpAnyH_take (i := 6) (v := .slice (some ⟨ga, oa, none⟩) n0 ca) rfl (by kernel_rfl) (by kernel_rfl) (by kernel_rfl) (fun _ _ _ h => h) (.inl ⟨rfl, fun w h => by have e := (C0.out w h).1; go_simp⟩) hS ?_
          simp only [Act.put]
          refine wpAnyH_take (i := 7) (v := .int .i64 (k : Int)) rfl (by kernel_rfl) (by kernel_rfl) (by kernel_rfl) (fun _ _ _ h => h) (yields_of rfl (fun w => by go_simp)) hS ?_
          simp only [Act.put]
          refine wpAnyH_take (i := 8) (v := .pointer (some ⟨ga, oa + k, none⟩)) rfl (by kernel_rfl) (by kernel_rfl) (by kernel_rfl) (fun _ _ _ h => h) (yields_of rfl (fun w => by go_simp)) hS ?_
          simp only [Act.put]
          refine wpAnyH_take (i := 9) (v := .int .u8 (xa : Int)) rfl (by kernel_rfl) (by kernel_rfl) (by kernel_rfl) (fun _ _ _ h => h) (.inl ⟨rfl, fun w h => by have e := (C0.out w h).2.1; go_simp⟩) hS ?_
          simp only [Act.put]
          refine wpAnyH_take (i := 10) (v := .slice (some ⟨gy, oy, none⟩) n cY) rfl (by kernel_rfl) (by kernel_rfl) (by kernel_rfl) (fun _ _ _ h => h) (yields_of rfl (fun w => by go_simp)) hS ?_
          simp only [Act.put]
          refine wpAnyH_take (i := 11) (v := .int .i64 (i : Int)) rfl (by kernel_rfl) (by kernel_rfl) (by kernel_rfl) (fun _ _ _ h => h) (yields_of rfl (fun w => by go_simp)) hS ?_
          simp only [Act.put]
          refine wpAnyH_take (i := 12) (v := .pointer (some ⟨gy, oy + i * 2, none⟩)) rfl (by kernel_rfl) (by kernel_rfl) (by kernel_rfl) (fun _ _ _ h => h) (yields_of rfl (fun w => by go_simp)) hS ?_
          simp only [Act.put]
          refine wpAnyH_take (i := 13) (v := .pointer (some ⟨gy, oy + i * 2 + 1, none⟩)) rfl (by kernel_rfl) (by kernel_rfl) (by kernel_rfl) (fun _ _ _ h => h) (yields_of rfl (fun w => by go_simp)) hS ?_
          simp only [Act.put]
          refine wpAnyH_take (i := 14) (v := .slice (some ⟨gb, ob, none⟩) n0 cb) rfl (by kernel_rfl) (by kernel_rfl) (by kernel_rfl) (fun _ _ _ h => h) (.inl ⟨rfl, fun w h => by have e := (C0.out w h).2.2.1; go_simp⟩) hS ?_
          simp only [Act.put]
          refine wpAnyH_take (i := 15) (v := .int .i64 (k : Int)) rfl (by kernel_rfl) (by kernel_rfl) (by kernel_rfl) (fun _ _ _ h => h) (yields_of rfl (fun w => by go_simp)) hS ?_
          simp only [Act.put]
          refine wpAnyH_take (i := 16) (v := .pointer (some ⟨gb, ob + k, none⟩)) rfl (by kernel_rfl) (by kernel_rfl) (by kernel_rfl) (fun _ _ _ h => h) (yields_of rfl (fun w => by go_simp)) hS ?_
          simp only [Act.put]
          refine wpAnyH_take (i := 17) (v := .int .u8 (xb : Int)) rfl (by kernel_rfl) (by kernel_rfl) (by kernel_rfl) (fun _ _ _ h => h) (.inl ⟨rfl, fun w h => by have e := (C0.out w h).2.2.2; go_simp⟩) hS ?_
          simp only [Act.put]
          refine wpAnyH_ready (rs := [1, 18]) (by kernel_rfl) (by simp) ?_
          refine AllReadyH.cons (o := _) rfl (fun K hK => ?_) (AllReadyH.cons (o := _) rfl (fun K hK => ?_) AllReadyH.nil)
          · go_simp
            refine hK.out _ _ hS (fun hS1 => ?_)
            refine wpAnyH_ready (rs := [18]) (by kernel_rfl) (by simp) ?_
            refine AllReadyH.cons (o := _) rfl (fun K hK => ?_) AllReadyH.nil
            go_simp
            refine ((unhid CA) _).mono ?_
            rintro e wq1 ⟨rfl, rfl⟩
            go_wp2_with fail
            refine hK.out _ _ hS (fun hS2 => ?_)
            refine wpAnyH_ready (rs := [19]) (by kernel_rfl) (by simp) ?_
            refine AllReadyH.cons (o := _) rfl (fun K hK => ?_) AllReadyH.nil
            go_simp
            have hbA := hbd.alloc hbd.size (.cells #[.int .u8 (v : Int)] 5)
            have hbS : Below gs wr (wr.drew.alloc (.cells #[.int .u8 (v : Int)] 5)) := hbA.mono (by omega)
            refine hK.out _ _ hbS (fun hS3 => ?_)
            refine wpAnyH_ready (rs := [20]) (by kernel_rfl) (by simp) ?_
            refine AllReadyH.cons (o := _) rfl (fun K hK => ?_) AllReadyH.nil
            rw [if_pos (by rfl)]
            refine app_wp bytS (.tmp 84) (.tmp 102) rfl rfl ((unhid HD').drew.alloc _) rfl (Row.lit_at wr.drew _ _ 1 _ (byt [v]) rfl rfl rfl) (byt_one _) (by simp [maxLen]; omega) (by omega) (by simp; omega) ?_
            intro A2 c2 wq2 o2 g2 l2
            have bl2 : Blk wq2 gs 41 #[.int .u8 ((i : Int) + 1), .slice AD k cD] := ((unhid BL) _ hbA).grown g2 (fun h => by have := ((unhid HD').from_ gs h).1; omega)
            have f2 : Below gs wk wq2 := ((unhid HE).trans (hbA.mono (by omega))).grown g2 (by simp; omega) (fun q hq => by have := ((unhid HD').from_ q hq).1; omega)
            have f3 : Below gs wr wq2 := (hbA.mono (show gs ≤ wr.heap.size by omega)).grown g2 (by simp; omega) (fun q hq => by have := ((unhid HD').from_ q hq).1; omega)
            rw [← byt_append, ← HDAT.out] at o2
            have d1 := bl2.cell 1
            have d2 := bl2.free 1
            simp at d1
            refine hK.out _ _ f3 (fun hS5 => ?_)
            refine wpAnyH_take (i := 21) (v := .pointer (some ⟨gs, 1, none⟩)) rfl (by kernel_rfl) (by kernel_rfl) (by kernel_rfl) (fun _ _ _ h => h) (yields_of rfl (fun w => by go_simp)) hS5 ?_
            simp only [Act.put]
            refine wpAnyH_ready (rs := [22]) (by kernel_rfl) (by simp) ?_
            refine AllReadyH.cons (o := _) rfl (fun K hK => ?_) AllReadyH.nil
            have HSn : Hid (Blk (wq2.setCell ⟨gs, 1, none⟩ (.slice A2 (k + 1) c2)) gs 41 #[.int .u8 ((i : Int) + 1), .slice A2 (k + 1) c2]) := hid (bl2.put 1 (.slice A2 (k + 1) c2))
            have HDn : Hid (Mny.Own (wq2.setCell ⟨gs, 1, none⟩ (.slice A2 (k + 1) c2)) (gs + 1) 5 1 A2 (k + 1) c2 (byt (datN T U (i + 1) (k + 1)))) := hid (o2.keep fun q hq => Below.heap_setCell _ _ _ _ (by have := (o2.from_ q hq).1; show q ≠ gs; omega))
            have HEn := hid (f2.setCell (p := ⟨gs, 1, none⟩) (Nat.le_refl _) (.slice A2 (k + 1) c2))
            have f4 := f3.setCell (p := ⟨gs, 1, none⟩) (Nat.le_refl _) (.slice A2 (k + 1) c2)
            go_simp
            refine hK.out _ _ f4 (fun hS6 => ?_)
            refine wpAnyH_done (by kernel_rfl) ?_ _
            clear hS hS5 hS6 d1 d2 o2 bl2 f2 f3 f4 g2 l2
            go_wp2_with fail
            go_roundw
            case rel => exact ⟨k + 1, A2, c2, by omega, by go_num, HSn, HDn, HEn⟩
            case measure => simp [intOf]; omega
          · go_simp
            refine ((unhid CA) _).mono ?_
            rintro e wq1 ⟨rfl, rfl⟩
            go_wp2_with fail
            refine hK.out _ _ hS (fun hS2 => ?_)
            refine wpAnyH_ready (rs := [1, 19]) (by kernel_rfl) (by simp) ?_
            refine AllReadyH.cons (o := _) rfl (fun K hK => ?_) (AllReadyH.cons (o := _) rfl (fun K hK => ?_) AllReadyH.nil)
            · have c1' := ((unhid BL) _ hbd).cell 1
              simp at c1'
              go_simp
              refine hK.out _ _ hS (fun hS4 => ?_)
              refine wpAnyH_ready (rs := [19]) (by kernel_rfl) (by simp) ?_
              refine AllReadyH.cons (o := _) rfl (fun K hK => ?_) AllReadyH.nil
              go_simp
              have hbA := hbd.alloc hbd.size (.cells #[.int .u8 (v : Int)] 5)
              have hbS : Below gs wr (wr.drew.alloc (.cells #[.int .u8 (v : Int)] 5)) := hbA.mono (by omega)
              refine hK.out _ _ hbS (fun hS3 => ?_)
              refine wpAnyH_ready (rs := [20]) (by kernel_rfl) (by simp) ?_
              refine AllReadyH.cons (o := _) rfl (fun K hK => ?_) AllReadyH.nil
              rw [if_pos (by rfl)]
              refine app_wp bytS (.tmp 84) (.tmp 102) rfl rfl ((unhid HD').drew.alloc _) rfl (Row.lit_at wr.drew _ _ 1 _ (byt [v]) rfl rfl rfl) (byt_one _) (by simp [maxLen]; omega) (by omega) (by simp; omega) ?_
              intro A2 c2 wq2 o2 g2 l2
              have bl2 : Blk wq2 gs 41 #[.int .u8 ((i : Int) + 1), .slice AD k cD] := ((unhid BL) _ hbA).grown g2 (fun h => by have := ((unhid HD').from_ gs h).1; omega)
              have f2 : Below gs wk wq2 := ((unhid HE).trans (hbA.mono (by omega))).grown g2 (by simp; omega) (fun q hq => by have := ((unhid HD').from_ q hq).1; omega)
              have f3 : Below gs wr wq2 := (hbA.mono (show gs ≤ wr.heap.size by omega)).grown g2 (by simp; omega) (fun q hq => by have := ((unhid HD').from_ q hq).1; omega)
              rw [← byt_append, ← HDAT.out] at o2
              have d1 := bl2.cell 1
              have d2 := bl2.free 1
              simp at d1
              refine hK.out _ _ f3 (fun hS5 => ?_)
              refine wpAnyH_take (i := 21) (v := .pointer (some ⟨gs, 1, none⟩)) rfl (by kernel_rfl) (by kernel_rfl) (by kernel_rfl) (fun _ _ _ h => h) (yields_of rfl (fun w => by go_simp)) hS5 ?_
              simp only [Act.put]
              refine wpAnyH_ready (rs := [22]) (by kernel_rfl) (by simp) ?_
              refine AllReadyH.cons (o := _) rfl (fun K hK => ?_) AllReadyH.nil
              have HSn : Hid (Blk (wq2.setCell ⟨gs, 1, none⟩ (.slice A2 (k + 1) c2)) gs 41 #[.int .u8 ((i : Int) + 1), .slice A2 (k + 1) c2]) := hid (bl2.put 1 (.slice A2 (k + 1) c2))
              have HDn : Hid (Mny.Own (wq2.setCell ⟨gs, 1, none⟩ (.slice A2 (k + 1) c2)) (gs + 1) 5 1 A2 (k + 1) c2 (byt (datN T U (i + 1) (k + 1)))) := hid (o2.keep fun q hq => Below.heap_setCell _ _ _ _ (by have := (o2.from_ q hq).1; show q ≠ gs; omega))
              have HEn := hid (f2.setCell (p := ⟨gs, 1, none⟩) (Nat.le_refl _) (.slice A2 (k + 1) c2))
              have f4 := f3.setCell (p := ⟨gs, 1, none⟩) (Nat.le_refl _) (.slice A2 (k + 1) c2)
              go_simp
              refine hK.out _ _ f4 (fun hS6 => ?_)
              refine wpAnyH_done (by kernel_rfl) ?_ _
              clear hS hS5 hS6 d1 d2 o2 bl2 f2 f3 f4 g2 l2
              go_wp2_with fail
              go_roundw
              case rel => exact ⟨k + 1, A2, c2, by omega, by go_num, HSn, HDn, HEn⟩
              case measure => simp [intOf]; omega
            · go_simp
              have hbA := hbd.alloc hbd.size (.cells #[.int .u8 (v : Int)] 5)
              have hbS : Below gs wr (wr.drew.alloc (.cells #[.int .u8 (v : Int)] 5)) := hbA.mono (by omega)
              refine hK.out _ _ hbS (fun hS3 => ?_)
              refine wpAnyH_ready (rs := [1]) (by kernel_rfl) (by simp) ?_
              refine AllReadyH.cons (o := _) rfl (fun K hK => ?_) AllReadyH.nil
              have c1' := ((unhid BL) _ hbA).cell 1
              simp at c1'
              go_simp
              refine hK.out _ _ hbS (fun hS4 => ?_)
              refine wpAnyH_ready (rs := [20]) (by kernel_rfl) (by simp) ?_
              refine AllReadyH.cons (o := _) rfl (fun K hK => ?_) AllReadyH.nil
              rw [if_pos (by rfl)]
              refine app_wp bytS (.tmp 84) (.tmp 102) rfl rfl ((unhid HD').drew.alloc _) rfl (Row.lit_at wr.drew _ _ 1 _ (byt [v]) rfl rfl rfl) (byt_one _) (by simp [maxLen]; omega) (by omega) (by simp; omega) ?_
              intro A2 c2 wq2 o2 g2 l2
              have bl2 : Blk wq2 gs 41 #[.int .u8 ((i : Int) + 1), .slice AD k cD] := ((unhid BL) _ hbA).grown g2 (fun h => by have := ((unhid HD').from_ gs h).1; omega)
              have f2 : Below gs wk wq2 := ((unhid HE).trans (hbA.mono (by omega))).grown g2 (by simp; omega) (fun q hq => by have := ((unhid HD').from_ q hq).1; omega)
              have f3 : Below gs wr wq2 := (hbA.mono (show gs ≤ wr.heap.size by omega)).grown g2 (by simp; omega) (fun q hq => by have := ((unhid HD').from_ q hq).1; omega)
              rw [← byt_append, ← HDAT.out] at o2
              have d1 := bl2.cell 1
              have d2 := bl2.free 1
              simp at d1
              refine hK.out _ _ f3 (fun hS5 => ?_)
              refine wpAnyH_take (i := 21) (v := .pointer (some ⟨gs, 1, none⟩)) rfl (by kernel_rfl) (by kernel_rfl) (by kernel_rfl) (fun _ _ _ h => h) (yields_of rfl (fun w => by go_simp)) hS5 ?_
              simp only [Act.put]
              refine wpAnyH_ready (rs := [22]) (by kernel_rfl) (by simp) ?_
              refine AllReadyH.cons (o := _) rfl (fun K hK => ?_) AllReadyH.nil
              have HSn : Hid (Blk (wq2.setCell ⟨gs, 1, none⟩ (.slice A2 (k + 1) c2)) gs 41 #[.int .u8 ((i : Int) + 1), .slice A2 (k + 1) c2]) := hid (bl2.put 1 (.slice A2 (k + 1) c2))
              have HDn : Hid (Mny.Own (wq2.setCell ⟨gs, 1, none⟩ (.slice A2 (k + 1) c2)) (gs + 1) 5 1 A2 (k + 1) c2 (byt (datN T U (i + 1) (k + 1)))) := hid (o2.keep fun q hq => Below.heap_setCell _ _ _ _ (by have := (o2.from_ q hq).1; show q ≠ gs; omega))
              have HEn := hid (f2.setCell (p := ⟨gs, 1, none⟩) (Nat.le_refl _) (.slice A2 (k + 1) c2))
              have f4 := f3.setCell (p := ⟨gs, 1, none⟩) (Nat.le_refl _) (.slice A2 (k + 1) c2)
              go_simp
              refine hK.out _ _ f4 (fun hS6 => ?_)
              refine wpAnyH_done (by kernel_rfl) ?_ _
              clear hS hS5 hS6 d1 d2 o2 bl2 f2 f3 f4 g2 l2
              go_wp2_with fail
              go_roundw
              case rel => exact ⟨k + 1, A2, c2, by omega, by go_num, HSn, HDn, HEn⟩
              case measure => simp [intOf]; omega
        · have hkn2 : n0 = k := by omega
          subst hkn2
          have i4 : ¬ (n0 : Int) < (n0 : Int) := by omega
          have HSh := hid ((unhid HO).below (by rw [hgs2.out]; exact unhid HE))
          have hAO : Hid (∀ q, at_ AO = some q → q < gs) := hid fun q hq => by
            obtain ⟨es, ho, _⟩ := unhid HO
            have := (ho.from_ q hq).2
            rwa [hgs2.out] at this
          have d0 := (unhid HS).cell 0
          have d1 := (unhid HS).cell 1
          simp at d0 d1
          have hwr : w4.heap.size ≤ wr.heap.size := by omega
          clear HO HE BS E1 hgs2
          go_wp2_with (at_builtin; refine halt_at (fun K hK => ?_))
          refine go_on hK ?_; clear hK
          obtain ⟨es, ho, hl, he⟩ := unhid HSh
          refine app_step shareS rfl (.tmp 105) (.tmp 107) rfl rfl (ho.alloc _) rfl (Row.lit_full wr _ _ 1 2 wr.heap.size [.int .u8 ((i : Int) + 1), .slice AD n0 cD] rfl rfl rfl) (by intro u hu; simp at hu; rcases hu with rfl | rfl <;> rfl) (by simp [maxLen]; omega) (by omega) (by simp; omega) ?_
          intro A2 c2 w3 o3 g3 l3
          have k3 : Kept (fun j => at_ AO = some j) wr w3 := ((Kept.refl (fun j => at_ AO = some j) wr).alloc _).trans (Kept.of_grown g3) (fun j _ h => h)
          have hdl : (datN T U (i + 1) n0).length = n0 := datN_len _ _ _ _
          have hd3 : 0 < (datN T U (i + 1) n0).length → Mny.Own w3 w4.heap.size 5 1 AD (datN T U (i + 1) n0).length cD (byt (datN T U (i + 1) n0)) := fun _ => by
            rw [hdl]
            exact ((unhid HD').kept k3 (fun q hq h => by have := ((unhid HD').from_ q hq).1; have := hAO.out q h; omega)).less (by omega)
          have hsn := Shs.snoc ho hl he (by decide) k3 (i + 1) (datN T U (i + 1) n0) (by rw [hdl]; exact (unhid HD').le.1) hd3 (by rw [hdl]; exact o3)
          have hspl := splitN_succ T U i
          rw [HTL.out] at hspl
          rw [← hspl] at hsn
          have HSN := hid hsn
          have HBN : Hid (Below w4.heap.size w4 w3) := hid (Below.grown ((unhid hEr).alloc hwr _) g3 (by simp; omega) (fun q hq => (ho.from_ q hq).1))
          clear hsn hspl hd3 hdl k3 o3 g3 l3 ho hl he HSh hAO HS HD' d0 d1
          go_wp2_with fail
          go_roundw
          case rel => exact ⟨i + 1, A2, c2, by omega, by go_num, rfl, HSN, HBN⟩
          case measure => simp [intOf]; omega
    · have hin2 : i = n := by omega
      subst hin2
      have i2 : ¬ (i : Int) < (i : Int) := by omega
      have hzb := (unhid HB).size
      have hTE := tells T U ((List.range i).map (· + 1)) (by intro x hx; obtain ⟨q, hq, rfl⟩ := List.mem_map.1 hx; have := List.mem_range.1 hq; omega) (nodup_up List.nodup_range) T8.out U8.out (by have := HT1.out; rw [HUL.out, List.length_map, List.length_range]; omega)
      rw [List.length_map, List.length_range, HTL.out] at hTE
      have JY := join_yes (picks T U (List.range i)) AO i cO wr.heap.size n0 wr (ShR.of_shs (unhid HO)) (Nat.le_refl _) (by omega) (by omega) (by omega) (by
        intro p hp
        obtain ⟨q, hq, rfl⟩ := List.mem_map.1 hp
        have := List.mem_range.1 hq
        refine ⟨?_, ?_, ?_, ?_⟩
        · show 1 ≤ q + 1; omega
        · show q + 1 < 256; omega
        · show (datN T U (q + 1) T.length).length = n0; rw [datN_len, HTL.out]
        · exact datN_by T8.out U8.out _ _) (by rw [picks_fst]; exact nodup_up List.nodup_range)
      unfold JoinP at JY
      rw [picks_fst, picks_snd, HTL.out, hTE] at JY
      have HJ := hid JY
      have E5 := hid ((unhid E4).trans ((unhid HB).mono hw4))
      clear JY hTE
      go_wp2_with fail
      refine (unhid HJ).mono ?_
      rintro e w5 ⟨AJ, rfl, rJ, hb5⟩
      have hs5 := (unhid E5).size
      have E6 := hid ((unhid E5).trans (hb5.mono hs5))
      have RJ := hid rJ
      clear hb5 rJ HJ E5
      go_wp2_with fail
      go_loopw [22] (fun v22 wr => ∃ k : Nat, k ≤ n0 ∧ v22 = .int .i64 k ∧ Hid (Below w5.heap.size w5 wr)) (fun v22 _ => n0 - (intOf v22).toNat)
      case atStart => exact ⟨0, Nat.zero_le _, rfl, Below.refl _ _⟩
      case round =>
        obtain ⟨k, hk, rfl, HF⟩ := hrel
        have hs6 := (unhid E6).size
        by_cases hkn : k < n0
        · have E7 := hid ((unhid E6).trans ((unhid HF).mono hs6))
          obtain ⟨gj, oj, xj, rfl, hgj, hxj, hcj⟩ := ((unhid RJ).below (unhid HF)).byte hkn
          obtain ⟨ga, oa, xa, rfl, hga, hxa, hca⟩ := ((unhid R0).below (unhid E7)).byte hkn
          obtain ⟨gb, ob, xb, rfl, hgb, hxb, hcb⟩ := ((unhid R1).below (unhid E7)).byte hkn
          have hv := HGT.out k
          rw [List.getD_eq_getElem?_getD, List.getD_eq_getElem?_getD, List.getD_eq_getElem?_getD, hxj, hxa, hxb] at hv
          simp only [Option.getD_some] at hv
          have xa8 : xa < 256 := Ha8.out _ (List.mem_of_getElem? hxa)
          have xb8 : xb < 256 := Hb8.out _ (List.mem_of_getElem? hxb)
          have CA : Hid (∀ w', Calls Try.prog 12 #[.int .u8 (xa : Int), .int .u8 (xb : Int)] w' fun e w'' => e = .returned (.int .u8 (xj : Nat)) ∧ w' = w'') := hid fun w' => by
            have := add_any xa xb w' xa8 xb8
            rwa [← hv] at this
          have i3 : (0 : Int) ≤ (k : Int) := by omega
          have i4 : (k : Int) < (n0 : Int) := by omega
          clear hv xa8 xb8 hxj hxa hxb E7
          go_wp2_with fail
          go_quiet ((go_at_call 12; exact ((unhid CA) _).mono fun _ _ hh => ⟨hh.1, ⟨_, hh.2.symm⟩⟩))
          go_wp2_with fail
          go_roundw
          case rel => exact ⟨k + 1, by omega, by go_num, (unhid HF).drewN _⟩
          case measure => simp [intOf]; omega
        · have i4 : ¬ (k : Int) < (n0 : Int) := by omega
          have E7 := hid ((unhid E6).trans ((unhid HF).mono hs6))
          go_wp2_with fail
          go_ret
          exact ⟨rfl, unhid E7⟩
end Go.Proofs.Ytilaipdpbcfhkaa

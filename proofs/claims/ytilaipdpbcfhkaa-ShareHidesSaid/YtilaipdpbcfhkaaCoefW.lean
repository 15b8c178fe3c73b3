/- The walk of the law's own 'coefficients'. -/
import Derived.Test.YtilaipdpbcfhkaaCoefMath
import Derived.Test.YtilaipdpbcfhkaaRefFieldW
import Derived.Test.YtilaipdpbcfhkaaMake
import Derived.Deep.RegionHeld
namespace Go.Proofs.Ytilaipdpbcfhkaa
set_option linter.unusedVariables false
open Go.RowKit Go.Mny
def CoefP (at_ v : List Nat) (n : Nat) (w : World) (e : Ending) (w' : World) : Prop :=
  ∃ (g : Nat) (C : List Nat), e = .returned (.slice (some ⟨g, 0, none⟩) n n) ∧ Mny.Own w' w.heap.size 5 1 (some ⟨g, 0, none⟩) n n (byt C) ∧ Thr at_ v C n ∧ Below w.heap.size w w'
theorem byt_setc (l : List Nat) (i x : Nat) : (byt l).set i (.int .u8 (x : Int)) = byt (l.set i x) := by simp [byt, List.map_set]
theorem byt_zeros (n : Nat) : List.replicate n (Value.int .u8 0) = byt (List.replicate n 0) := by simp [byt]
theorem byt_get {l : List Nat} {k x : Nat} (h : l[k]? = some x) : (byt l)[k]? = some (.int .u8 (x : Int)) := by rw [List.getElem?_map, h]; rfl
set_option maxHeartbeats 4000000 in
set_option maxRecDepth 100000 in
theorem coeffs_any (at_ v : List Nat) (A0 A1 : Option Addr) (n c0 c1 D : Nat) (w : World) (hA : Row w D 1 A0 n (byt at_)) (hV : Row w D 1 A1 n (byt v)) (hD : D ≤ w.heap.size) (a8 : By8s at_) (v8 : By8s v) (hnd : at_.Nodup) (h1 : 1 ≤ n) (hn : n ≤ 1048576) :
    Calls Try.prog 16 #[.slice A0 n c0, .slice A1 n c1] w (CoefP at_ v n w) := by
  have hal : at_.length = n := by have := hA.len; rw [byt_len] at this; omega
  have hvl : v.length = n := by have := hV.len; rw [byt_len] at this; omega
  have HA := hid hA; have HV := hid hV; have A8 := hid a8; have V8 := hid v8; have HND := hid hnd; have HAL := hid hal; have HVL := hid hvl
  clear hA hV a8 v8 hnd hal hvl
  go_enter Try.func16, Try.ntmps16
  go_wp2_with (with_reducible refine halt_op (some 16) (.makeSlice _ _ _) (fun K hK => ?_))
  refine go_on hK ?_; clear hK
  refine make_full (.int .u8 0) Try.underlying35 (b := 1) (by kernel_rfl) rfl rfl (.tmp 15) (.tmp 15) rfl rfl rfl (n := n) (by omega) (by simp [maxLen]; omega) ?_
  intro go w2 hgo o2 e2 hz2
  rw [byt_zeros] at o2
  have hgw : w.heap.size ≤ go := by omega
  have hg2 : go < w2.heap.size := by omega
  have O2 := hid o2; have E2 := hid e2
  have T0 : Hid (Thr at_ v (List.replicate n 0) 0) := hid (by have := Thr.start at_ v A8.out; rwa [HAL.out] at this)
  clear o2 e2 hgo hz2
  go_wp2_with fail
  go_loopw [6] (fun v6 wr => ∃ (i : Nat) (O : List Nat), i ≤ n ∧ v6 = .int .i64 i ∧ Hid (Mny.Own wr w.heap.size 5 1 (some ⟨go, 0, none⟩) n n (byt O)) ∧ Hid (Thr at_ v O i) ∧ Hid (Below w.heap.size w wr)) (fun v6 _ => n - (intOf v6).toNat)
  case atStart => exact ⟨0, _, Nat.zero_le _, rfl, O2, T0, E2⟩
  case round =>
    obtain ⟨i, O, hi, rfl, HO, HT, HB⟩ := hrel
    have hgr : go < wr.heap.size := ((unhid HO).from_ go rfl).2
    have hsw := (unhid HB).size
    by_cases hin : i < n
    · obtain ⟨wk, hwk⟩ : ∃ wk : World, wk = wr := ⟨_, rfl⟩
      rw [← hwk] at HO HB hgr hsw
      rw [← hwk]
      clear hwk
      have i1 : (0 : Int) ≤ (i : Int) := by omega
      have i2 : (i : Int) < (n : Int) := by omega
      obtain ⟨ga, oa, a, rfl, hga, ha, hca⟩ := (unhid HA).byte hin
      obtain ⟨gv, ov, vi, rfl, hgv, hv, hcv⟩ := (unhid HV).byte hin
      have ai8 : a < 256 := A8.out _ (List.mem_of_getElem? ha)
      have vi8 : vi < 256 := V8.out _ (List.mem_of_getElem? hv)
      have hag : at_.getD i 0 = a := by rw [List.getD_eq_getElem?_getD, ha]; rfl
      have hvg : v.getD i 0 = vi := by rw [List.getD_eq_getElem?_getD, hv]; rfl
      have HAG := hid hag; have HVG := hid hvg; have AI8 := hid ai8; have VI8 := hid vi8; have HAI := hid ha
      have CA : Hid (∀ W, Below w.heap.size w W → W.cell? ⟨ga, oa + i, none⟩ = some (.int .u8 (a : Int)) ∧ W.cell? ⟨gv, ov + i, none⟩ = some (.int .u8 (vi : Int))) := hid fun W hW =>
        ⟨((hW.mono hD).cell (p := ⟨ga, oa + i, none⟩) hga).trans hca, ((hW.mono hD).cell (p := ⟨gv, ov + i, none⟩) hgv).trans hcv⟩
      clear ha hv hca hcv ai8 vi8 hag hvg
      go_wp2_with fail
      have OC : Hid (Mny.Own (wk.alloc (.cells #[.int .u8 1] 5)) wk.heap.size 5 1 (some ⟨wk.heap.size, 0, none⟩) 1 1 (byt [1])) := hid (Own.lit_at wk wk.heap.size 5 1 1 wk.heap.size _ _ rfl (Nat.le_refl _) (by decide) rfl rfl)
      have EC := hid ((Below.refl wk.heap.size wk).alloc (Nat.le_refl _) (.cells #[.int .u8 1] 5))
      generalize wk.alloc (.cells #[.int .u8 1] 5) = w3 at OC EC ⊢
      generalize (some ⟨wk.heap.size, 0, none⟩ : Option Addr) = AC0 at OC ⊢
      have P0 : Hid (Prod [1] ((at_.take 0).eraseIdx i)) := hid (by rw [List.take_zero]; exact Prod.one)
      have hpr0 : pr a ((at_.take 0).eraseIdx i) = 1 := by rw [List.take_zero]; rfl
      have PR0 := hid hpr0
      clear hpr0
      go_loopw [7, 8, 9] (fun v7 v8 v9 wr => ∃ (j m x : Nat) (C : List Nat) (AC : Option Addr) (cC : Nat), j ≤ n ∧ v9 = .int .i64 j ∧ v7 = .slice AC m cC ∧ v8 = .int .u8 (x : Int) ∧ m ≤ n ∧ Hid (m = ((at_.take j).eraseIdx i).length + 1) ∧ Hid (pr a ((at_.take j).eraseIdx i) = x) ∧ Hid (Mny.Own wr wk.heap.size 5 1 AC m cC (byt C)) ∧ Hid (Prod C ((at_.take j).eraseIdx i)) ∧ Hid (Below wk.heap.size wk wr)) (fun _ _ v9 _ => n - (intOf v9).toNat)
      case atStart => exact ⟨0, 1, 1, [1], AC0, 1, Nat.zero_le _, rfl, rfl, rfl, h1, hid (by rw [List.take_zero]; rfl), PR0, OC, P0, EC⟩
      case round =>
        obtain ⟨j, m, x, C, AC, cC, hj, rfl, rfl, rfl, hmn, HM, HX, HC, HP, HE⟩ := hrel
        have hse := (unhid HE).size
        by_cases hjn : j < n
        · obtain ⟨wj, hwj⟩ : ∃ wj : World, wj = wr := ⟨_, rfl⟩
          rw [← hwj] at HC HE hse
          rw [← hwj]
          clear hwj
          have j1 : (0 : Int) ≤ (j : Int) := by omega
          have j2 : (j : Int) < (n : Int) := by omega
          obtain ⟨ga', oa', b, ea, hga', hb, hcb⟩ := (unhid HA).byte hjn
          injection ea with ea
          injection ea with ea1 ea2
          subst ea1 ea2
          have hb8 : b < 256 := A8.out _ (List.mem_of_getElem? hb)
          have HBG := hid hb; have HB8 := hid hb8
          by_cases hji : j = i
          · have hth : (at_.take (j + 1)).eraseIdx i = (at_.take j).eraseIdx i := by
              have hb' := hb
              rw [hji] at hb' ⊢
              exact othTo_eq hb'
            have hm' : m = ((at_.take (j + 1)).eraseIdx i).length + 1 := by rw [hth]; exact HM.out
            have hx' : pr a ((at_.take (j + 1)).eraseIdx i) = x := by rw [hth]; exact HX.out
            have hp' : Prod C ((at_.take (j + 1)).eraseIdx i) := by rw [hth]; exact HP.out
            have HM' := hid hm'; have HX' := hid hx'; have HP' := hid hp'
            have t1 : ((j : Int) == (i : Int)) = true := by simp; omega
            clear hth hm' hx' hp' hcb hb hb8 hji HM HX HP
            go_wp2_with fail
            go_roundw
            case rel => exact ⟨j + 1, m, x, C, AC, cC, by omega, by go_num, rfl, rfl, hmn, HM', HX', HC, HP', HE⟩
            case measure => simp [intOf]; omega
          · have t1 : ((j : Int) == (i : Int)) = false := by simp; omega
            have HJI := hid hji
            have hcl : C.length = m := by rw [HP.out.1, ← HM.out]
            have hx8 : x < 256 := by rw [← HX.out]; exact pr_lt _ _
            have hth := othTo_ne (l := at_) (i := i) hb hji
            have hml : m + 1 ≤ n := by
              have h2 := HM.out
              have h3 : ((at_.take (j + 1)).eraseIdx i).length = ((at_.take j).eraseIdx i).length + 1 := by rw [hth, List.length_append]; rfl
              have h4 : ((at_.take (j + 1)).eraseIdx i).length ≤ n - 1 ∨ n = j + 1 := by
                by_cases h5 : j + 1 < n
                · have := List.length_eraseIdx_le (at_.take (j + 1)) i
                  rw [List.length_take] at this; left; omega
                · right; omega
              rcases h4 with h4 | h4
              · omega
              · have h6 : i < (at_.take (j + 1)).length := by rw [List.length_take, HAL.out]; omega
                have h7 := List.length_eraseIdx_of_lt h6
                rw [List.length_take, HAL.out] at h7
                omega
            have HTH := hid hth; have HCL := hid hcl; have HX8 := hid hx8
            have C8 : Hid (By8s C) := hid HP.out.2.1
            clear hth hcb hb hb8 hji hcl hx8
            go_wp2_with (with_reducible refine halt_op (some 36) (.makeSlice _ _ _) (fun K hK => ?_))
            refine go_on hK ?_; clear hK
            refine make_full (.int .u8 0) Try.underlying35 (b := 1) (by kernel_rfl) rfl rfl (.tmp 35) (.tmp 35) rfl (k1 := .i64) (k2 := .i64) (n := m + 1) (by go_simp) (by go_simp) (by omega) (by simp [maxLen]; omega) ?_
            intro gn w4 hgn o4 e4 hz4
            rw [byt_zeros, ← nx_zero C b (m + 1)] at o4
            have hgj : wj.heap.size ≤ gn := by omega
            have O4 := hid o4; have E4 := hid e4
            clear o4 e4 hgn hz4
            go_wp2_with fail
            go_loopw [11] (fun v11 wr => ∃ k : Nat, k ≤ m ∧ v11 = .int .i64 k ∧ Hid (Mny.Own wr wj.heap.size 5 1 (some ⟨gn, 0, none⟩) (m + 1) (m + 1) (byt (lst (m + 1) (nx C b k k)))) ∧ Hid (Below wj.heap.size wj wr)) (fun v11 _ => m - (intOf v11).toNat)
            case atStart => exact ⟨0, Nat.zero_le _, rfl, O4, E4⟩
            case round =>
              obtain ⟨k, hk, rfl, HN, HF⟩ := hrel
              have hsj := (unhid HF).size
              by_cases hkm : k < m
              · have hBC := (Row.of_own (unhid HC))
                obtain ⟨gc, oc, ck, rfl, hgc, hck, hcc⟩ := hBC.byte hkm
                have ck8 : ck < 256 := C8.out _ (List.mem_of_getElem? hck)
                have hckg : C.getD k 0 = ck := by rw [List.getD_eq_getElem?_getD, hck]; rfl
                have C0 : Hid (∀ W, Below wj.heap.size wj W → W.cell? ⟨gc, oc + k, none⟩ = some (.int .u8 (ck : Int)) ∧ W.cell? ⟨ga, oa + j, none⟩ = some (.int .u8 (b : Int))) := hid fun W hW => by
                  have hW2 : Below D w W := ((unhid HB).trans (((unhid HE).trans (hW.mono hse)).mono hsw)).mono hD
                  obtain ⟨ga2, oa2, b2, ea, hga2, hb2, hcb2⟩ := ((unhid HA).below hW2).byte hjn
                  injection ea with ea
                  injection ea with ea1 ea2
                  subst ea1 ea2
                  rw [HBG.out] at hb2
                  injection hb2 with hb2
                  subst hb2
                  exact ⟨(hW.cell (p := ⟨gc, oc + k, none⟩) hgc).trans hcc, hcb2⟩
                have u0 := nx_lt C8.out b k k (k + 1)
                obtain ⟨u, hu⟩ : ∃ u, nx C b k k (k + 1) = u := ⟨_, rfl⟩
                have hs1 := nx_one C b k (m + 1)
                rw [hu, hckg] at hs1
                rw [hu] at u0
                have hxr := u8_xor u ck u0 ck8
                have hg := (unhid HN).get1 (i := k + 1) (by omega)
                have hcn : wr.cell? ⟨gn, k + 1, none⟩ = some (.int .u8 (u : Int)) := hg.1.trans (byt_get (by rw [lst_get _ (by omega), hu]))
                have hfn : wr.frozen? ⟨gn, k + 1, none⟩ = false := hg.2
                have hcw := (C0.out _ (unhid HF)).1
                have k1 : (0 : Int) ≤ (k : Int) := by omega
                have k2 : (k : Int) < (m : Int) := by omega
                have k3 : (0 : Int) ≤ (k : Int) + 1 := by omega
                have k4 : (k : Int) + 1 < (m : Int) + 1 := by omega
                have k5 : (k : Int) < (m : Int) + 1 := by omega
                have tn : ((k : Int) + 1).toNat = k + 1 := by omega
                obtain ⟨y, hy⟩ : ∃ y, u ^^^ ck = y := ⟨_, rfl⟩
                rw [hy] at hs1 hxr
                have hst := (unhid HN).set1 (i := k + 1) (by omega) (.int .u8 (y : Int))
                have HP2 : Hid (Mny.Own (wr.setCell ⟨gn, k + 1, none⟩ (.int .u8 (y : Int))) wj.heap.size 5 1 (some ⟨gn, 0, none⟩) (m + 1) (m + 1) (byt (lst (m + 1) (nx C b (k + 1) k)))) := hid (by
                  have := hst.2.1
                  rw [byt_setc, hs1] at this
                  exact this)
                have HF2 : Hid (Below wj.heap.size wj (wr.setCell ⟨gn, k + 1, none⟩ (.int .u8 (y : Int)))) := hid ((unhid HF).setCell (p := ⟨gn, k + 1, none⟩) hgj _)
                have HCKG := hid hckg; have CK8 := hid ck8
                clear hg hst hs1 hu u0 hy ck8 hckg hck hcc hBC
                go_wp2_with fail
                go_region
                have HP4 := hid (unhid HP2).drew; have HF4 := hid (unhid HF2).drew
                clear HP2 HF2 HN HF hsj hcw hcn hfn hxr tn
                generalize (wr.setCell ⟨gn, k + 1, none⟩ (.int .u8 (y : Int))).drew = w5 at HP4 HF4 ⊢
                have v0 := nx_lt C8.out b (k + 1) k k
                have hs2 := nx_two C b k (m + 1)
                rw [HCKG.out] at hs2
                obtain ⟨u, hu⟩ : ∃ u, nx C b (k + 1) k k = u := ⟨_, rfl⟩
                rw [hu] at hs2 v0
                have p8 : Fld.mul ck b < 256 := Fld.mul_lt _ _ CK8.out
                have hcm := fun w' : World => rmul_any ck b w' CK8.out HB8.out
                obtain ⟨p, hp⟩ : ∃ p, Fld.mul ck b = p := ⟨_, rfl⟩
                rw [hp] at hs2 p8 hcm
                have CM := hid hcm
                have hxr := u8_xor u p v0 p8
                have hg := (unhid HP4).get1 (i := k) (by omega)
                have hcn : w5.cell? ⟨gn, k, none⟩ = some (.int .u8 (u : Int)) := hg.1.trans (byt_get (by rw [lst_get _ (by omega), hu]))
                have hfn : w5.frozen? ⟨gn, k, none⟩ = false := hg.2
                have hst := (unhid HP4).drew.set1 (i := k) (by omega) (.int .u8 ((u ^^^ p : Nat) : Int))
                have HP3 : Hid (Mny.Own (w5.drew.setCell ⟨gn, k, none⟩ (.int .u8 ((u ^^^ p : Nat) : Int))) wj.heap.size 5 1 (some ⟨gn, 0, none⟩) (m + 1) (m + 1) (byt (lst (m + 1) (nx C b (k + 1) (k + 1))))) := hid (by
                  have := hst.2.1
                  rw [byt_setc, hs2] at this
                  exact this)
                have HF3 : Hid (Below wj.heap.size wj (w5.drew.setCell ⟨gn, k, none⟩ (.int .u8 ((u ^^^ p : Nat) : Int)))) := hid ((unhid HF4).drew.setCell (p := ⟨gn, k, none⟩) hgj _)
                have hS9 := unhid HF3
                have HF2 := HF4
                clear hg hst hs2 hu v0 hp p8 hcm HF4 HP4
                go_wp2_with fail
                refine wp_region_held_drew (S := fun w' => Below wj.heap.size wj w') (by kernel_rfl) (unhid HF2).drew (fun hS => ?_)
                refine wpAnyH_take (i := 0) (v := .slice (some ⟨gn, 0, none⟩) (m + 1) (m + 1)) rfl (by kernel_rfl) (by kernel_rfl) (by kernel_rfl) (fun _ _ _ h => h) (yields_of rfl (fun w => by go_simp)) hS ?_
                simp only [Act.put, List.setIfInBounds_toArray]
                refine wpAnyH_take (i := 1) (v := .int .i64 (k : Int)) rfl (by kernel_rfl) (by kernel_rfl) (by kernel_rfl) (fun _ _ _ h => h) (yields_of rfl (fun w => by go_simp)) hS ?_
                simp only [Act.put]
                refine wpAnyH_take (i := 2) (v := .slice (some ⟨gn, 0, none⟩) (m + 1) (m + 1)) rfl (by kernel_rfl) (by kernel_rfl) (by kernel_rfl) (fun _ _ _ h => h) (yields_of rfl (fun w => by go_simp)) hS ?_
                simp only [Act.put]
                refine wpAnyH_take (i := 3) (v := .int .i64 (k : Int)) rfl (by kernel_rfl) (by kernel_rfl) (by kernel_rfl) (fun _ _ _ h => h) (yields_of rfl (fun w => by go_simp)) hS ?_
                simp only [Act.put]
                refine wpAnyH_take (i := 4) (v := .pointer (some ⟨gn, k, none⟩)) rfl (by kernel_rfl) (by kernel_rfl) (by kernel_rfl) (fun _ _ _ h => h) (yields_of rfl (fun w => by go_simp)) hS ?_
                simp only [Act.put]
                refine wpAnyH_take (i := 6) (v := .slice (some ⟨gc, oc, none⟩) m cC) rfl (by kernel_rfl) (by kernel_rfl) (by kernel_rfl) (fun _ _ _ h => h) (yields_of rfl (fun w => by go_simp)) hS ?_
                simp only [Act.put]
                refine wpAnyH_take (i := 7) (v := .int .i64 (k : Int)) rfl (by kernel_rfl) (by kernel_rfl) (by kernel_rfl) (fun _ _ _ h => h) (yields_of rfl (fun w => by go_simp)) hS ?_
                simp only [Act.put]
                refine wpAnyH_take (i := 8) (v := .pointer (some ⟨gc, oc + k, none⟩)) rfl (by kernel_rfl) (by kernel_rfl) (by kernel_rfl) (fun _ _ _ h => h) (yields_of rfl (fun w => by go_simp)) hS ?_
                simp only [Act.put]
                refine wpAnyH_take (i := 9) (v := .int .u8 (ck : Int)) rfl (by kernel_rfl) (by kernel_rfl) (by kernel_rfl) (fun _ _ _ h => h) (.inl ⟨rfl, fun w h => by have e := (C0.out w h).1; go_simp⟩) hS ?_
                simp only [Act.put]
                refine wpAnyH_take (i := 10) (v := .slice (some ⟨ga, oa, none⟩) n c0) rfl (by kernel_rfl) (by kernel_rfl) (by kernel_rfl) (fun _ _ _ h => h) (yields_of rfl (fun w => by go_simp)) hS ?_
                simp only [Act.put]
                refine wpAnyH_take (i := 11) (v := .int .i64 (j : Int)) rfl (by kernel_rfl) (by kernel_rfl) (by kernel_rfl) (fun _ _ _ h => h) (yields_of rfl (fun w => by go_simp)) hS ?_
                simp only [Act.put]
                refine wpAnyH_take (i := 12) (v := .pointer (some ⟨ga, oa + j, none⟩)) rfl (by kernel_rfl) (by kernel_rfl) (by kernel_rfl) (fun _ _ _ h => h) (yields_of rfl (fun w => by go_simp)) hS ?_
                simp only [Act.put]
                refine wpAnyH_take (i := 13) (v := .int .u8 (b : Int)) rfl (by kernel_rfl) (by kernel_rfl) (by kernel_rfl) (fun _ _ _ h => h) (.inl ⟨rfl, fun w h => by have e := (C0.out w h).2; go_simp⟩) hS ?_
                simp only [Act.put]
                refine wpAnyH_ready (rs := [5, 14]) (by kernel_rfl) (by simp) ?_
                refine AllReadyH.cons (o := _) rfl (fun K hK => ?_) (AllReadyH.cons (o := _) rfl (fun K hK => ?_) AllReadyH.nil)
                · go_simp
                  refine hK.out _ _ hS (fun _ => ?_)
                  refine wpAnyH_ready (rs := [14]) (by kernel_rfl) (by simp) ?_
                  refine AllReadyH.cons (o := _) rfl (fun K hK => ?_) AllReadyH.nil
                  go_simp
                  refine ((unhid CM) _).mono ?_
                  rintro e w' ⟨rfl, rfl⟩
                  go_wp2_with fail
                  refine hK.out _ _ hS (fun _ => ?_)
                  refine wpAnyH_take (i := 15) (v := .int .u8 ((u ^^^ p : Nat) : Int)) rfl (by kernel_rfl) (by kernel_rfl) (by kernel_rfl) (fun _ _ _ h => h) (yields_of rfl (fun w => by go_simp)) hS ?_
                  simp only [Act.put]
                  refine wpAnyH_take (i := 16) (v := .pointer (some ⟨gn, k, none⟩)) rfl (by kernel_rfl) (by kernel_rfl) (by kernel_rfl) (fun _ _ _ h => h) (yields_of rfl (fun w => by go_simp)) hS ?_
                  simp only [Act.put]
                  refine wpAnyH_ready (rs := [17]) (by kernel_rfl) (by simp) ?_
                  refine AllReadyH.cons (o := _) rfl (fun K hK => ?_) AllReadyH.nil
                  go_simp
                  refine hK.out _ _ hS9 (fun _ => ?_)
                  refine wpAnyH_done (by kernel_rfl) ?_ _
                  clear hS hS9
                  go_wp2_with fail
                  go_roundw
                  case rel => exact ⟨k + 1, by omega, by go_num, HP3, HF3⟩
                  case measure => simp [intOf]; omega
                · go_simp
                  refine ((unhid CM) _).mono ?_
                  rintro e w' ⟨rfl, rfl⟩
                  go_wp2_with fail
                  refine hK.out _ _ hS (fun _ => ?_)
                  refine wpAnyH_ready (rs := [5]) (by kernel_rfl) (by simp) ?_
                  refine AllReadyH.cons (o := _) rfl (fun K hK => ?_) AllReadyH.nil
                  go_simp
                  refine hK.out _ _ hS (fun _ => ?_)
                  refine wpAnyH_take (i := 15) (v := .int .u8 ((u ^^^ p : Nat) : Int)) rfl (by kernel_rfl) (by kernel_rfl) (by kernel_rfl) (fun _ _ _ h => h) (yields_of rfl (fun w => by go_simp)) hS ?_
                  simp only [Act.put]
                  refine wpAnyH_take (i := 16) (v := .pointer (some ⟨gn, k, none⟩)) rfl (by kernel_rfl) (by kernel_rfl) (by kernel_rfl) (fun _ _ _ h => h) (yields_of rfl (fun w => by go_simp)) hS ?_
                  simp only [Act.put]
                  refine wpAnyH_ready (rs := [17]) (by kernel_rfl) (by simp) ?_
                  refine AllReadyH.cons (o := _) rfl (fun K hK => ?_) AllReadyH.nil
                  go_simp
                  refine hK.out _ _ hS9 (fun _ => ?_)
                  refine wpAnyH_done (by kernel_rfl) ?_ _
                  clear hS hS9
                  go_wp2_with fail
                  go_roundw
                  case rel => exact ⟨k + 1, by omega, by go_num, HP3, HF3⟩
                  case measure => simp [intOf]; omega
              · have hkm2 : m = k := by omega
                subst hkm2
                have k2 : ¬ (m : Int) < (m : Int) := by omega
                have hne := nx_end C b
                rw [HCL.out] at hne
                rw [hne] at HN
                have hb3 : Below w.heap.size w wr := (unhid HB).trans (((unhid HE).trans ((unhid HF).mono hse)).mono hsw)
                obtain ⟨ga2, oa2, b2, ea, hga2, hb2, hcb2⟩ := ((unhid HA).below (hb3.mono hD)).byte hjn
                injection ea with ea
                injection ea with ea1 ea2
                subst ea1 ea2
                rw [HBG.out] at hb2
                injection hb2 with hb2
                subst hb2
                have hca := (CA.out _ hb3).1
                obtain ⟨z, hz⟩ : ∃ z, a ^^^ b = z := ⟨_, rfl⟩
                have hxr := u8_xor a b AI8.out HB8.out
                have hz8 : a ^^^ b < 256 := Fld.xor_lt _ _ AI8.out HB8.out
                rw [hz] at hxr hz8
                have hcm := fun w' : World => rmul_any x z w' HX8.out hz8
                obtain ⟨y, hy⟩ : ∃ y, Fld.mul x z = y := ⟨_, rfl⟩
                rw [hy] at hcm
                have CM := hid hcm
                have HX' : Hid (pr a ((at_.take (j + 1)).eraseIdx i) = y) := hid (by rw [HTH.out, pr_snoc, HX.out, hz, hy])
                have HM' : Hid (m + 1 = ((at_.take (j + 1)).eraseIdx i).length + 1) := hid (by rw [HTH.out, List.length_append, HM.out]; rfl)
                have HP' : Hid (Prod (Fld.plin b C) ((at_.take (j + 1)).eraseIdx i)) := hid (by rw [HTH.out]; exact HP.out.snoc HB8.out)
                have HC' := hid ((unhid HN).less (show wk.heap.size ≤ wj.heap.size from hse))
                have HE' := hid ((unhid HE).trans ((unhid HF).mono hse))
                clear hne hb3 hz hz8 hcm hy HN HF HE HC HX HM HP
                go_wp2_with fail
                go_quiet ((go_at_call 22; exact ((unhid CM) _).mono fun _ _ hh => ⟨hh.1, ⟨_, hh.2.symm⟩⟩))
                go_wp2_with fail
                go_roundw
                case rel => exact ⟨j + 1, m + 1, y, Fld.plin b C, some ⟨gn, 0, none⟩, m + 1, by omega, by go_num, rfl, rfl, hml, HM', HX', hid ((unhid HC').keep fun q hq => rfl), HP', hid ((unhid HE').drewN _)⟩
                case measure => simp [intOf]; omega
        · have hjn2 : j = n := by omega
          have j2 : ¬ (j : Int) < (n : Int) := by omega
          have hta : at_.take j = at_ := List.take_of_length_le (by rw [HAL.out]; omega)
          rw [hta] at HM HX HP
          have hmn2 : n = m := by
            have := HM.out
            rw [List.length_eraseIdx_of_lt (by rw [HAL.out]; exact hin), HAL.out] at this
            omega
          subst hmn2
          have hb3 : Below w.heap.size w wr := (unhid HB).trans ((unhid HE).mono hsw)
          have hcv := (CA.out _ hb3).2
          have hst := (unhid HT).step A8.out V8.out HND.out (by rw [HAL.out]; exact hin) HP.out
          rw [HAG.out, HVG.out, HX.out] at hst
          have hx8 : x < 256 := by rw [← HX.out]; exact pr_lt _ _
          have hci := fun w' : World => rinv_any x w' hx8 hst.1
          have hi8 := (Fld.inv_spec x hx8 hst.1).2
          obtain ⟨iv, hiv⟩ : ∃ y, Fld.inv x = y := ⟨_, rfl⟩
          rw [hiv] at hst hci hi8
          have hcm := fun w' : World => rmul_any vi iv w' VI8.out hi8
          have hs8 : Fld.mul vi iv < 256 := Fld.mul_lt _ _ VI8.out
          obtain ⟨s, hs⟩ : ∃ s, Fld.mul vi iv = s := ⟨_, rfl⟩
          rw [hs] at hst hcm hs8
          have CI := hid hci; have CM2 := hid hcm; have HT2 := hid hst.2; have HS8 := hid hs8
          have OL := hid (show O.length = n by rw [(unhid HT).1, HAL.out])
          have CL := hid (show C.length = n by rw [HP.out.1, ← HM.out])
          have O8 := hid (unhid HT).2.1
          have C8 := hid HP.out.2.1
          have HOr := hid ((unhid HO).below (D := wk.heap.size) (unhid HE) (Nat.le_refl _))
          have HBr := hid hb3
          clear hta hst hx8 hci hi8 hiv hcm hs hs8 hb3 hjn2 HT HO HX HM HP PR0 P0 OC EC
          go_wp2_with fail
          go_quiet ((first | (go_at_call 23; exact ((unhid CI) _).mono fun _ _ hh => ⟨hh.1, ⟨_, hh.2.symm⟩⟩) | (go_at_call 22; exact ((unhid CM2) _).mono fun _ _ hh => ⟨hh.1, ⟨_, hh.2.symm⟩⟩)))
          have HC9 := hid ((unhid HC).keep (w' := wr.drewN nq) fun q hq => rfl)
          have HO9 := hid ((unhid HOr).keep (w' := wr.drewN nq) fun q hq => rfl)
          have HB9 := hid ((unhid HBr).drewN nq)
          have hz9 : go < (wr.drewN nq).heap.size := (unhid HO9).from_ go rfl |>.2
          clear HC HOr HBr hcv
          generalize wr.drewN nq = wq at HC9 HO9 HB9 hz9 ⊢
          have hwq := (unhid HB9).size
          go_wp2_with fail
          go_loopw [13] (fun v13 wr => ∃ k : Nat, k ≤ n ∧ v13 = .int .i64 k ∧ Hid (Mny.Own wr w.heap.size 5 1 (some ⟨go, 0, none⟩) n n (byt (lst n (sx O C s k)))) ∧ Hid (Kept (fun j => j = go) wq wr)) (fun v13 _ => n - (intOf v13).toNat)
          case atStart => exact ⟨0, Nat.zero_le _, rfl, hid (by have := sx_zero O C s; rw [OL.out] at this; rw [this]; exact unhid HO9), Kept.refl _ _⟩
          case round =>
            obtain ⟨k, hk, rfl, HN, HF⟩ := hrel
            by_cases hkn : k < n
            · obtain ⟨gc, oc, ck, rfl, hgc, hck, hcc⟩ := (Row.of_own (unhid HC9)).byte hkn
              have hgck := ((unhid HC9).from_ gc rfl).1
              have ck8 : ck < 256 := C8.out _ (List.mem_of_getElem? hck)
              have hckg : C.getD k 0 = ck := by rw [List.getD_eq_getElem?_getD, hck]; rfl
              have C0 : Hid (∀ W, Kept (fun j => j = go) wq W → W.cell? ⟨gc, oc + k, none⟩ = some (.int .u8 (ck : Int))) := hid fun W hW => by
                rw [World.cell?_of_block (hW.block gc (by omega) (by omega))]; exact hcc
              have u0 := sx_lt O8.out C8.out s k k
              have hs2 := sx_step O C s k n
              rw [hckg] at hs2
              obtain ⟨u, hu⟩ : ∃ u, sx O C s k k = u := ⟨_, rfl⟩
              rw [hu] at hs2 u0
              have p8 : Fld.mul ck s < 256 := Fld.mul_lt _ _ ck8
              have hcm := fun w' : World => rmul_any ck s w' ck8 HS8.out
              obtain ⟨p, hp⟩ : ∃ p, Fld.mul ck s = p := ⟨_, rfl⟩
              rw [hp] at hs2 p8 hcm
              have CM := hid hcm
              have hxr := u8_xor u p u0 p8
              have hg := (unhid HN).get1 (i := k) hkn
              have hcn : wr.cell? ⟨go, k, none⟩ = some (.int .u8 (u : Int)) := hg.1.trans (byt_get (by rw [lst_get _ hkn, hu]))
              have hfn : wr.frozen? ⟨go, k, none⟩ = false := hg.2
              have hst := (unhid HN).drew.set1 (i := k) hkn (.int .u8 ((u ^^^ p : Nat) : Int))
              have HP2 : Hid (Mny.Own (wr.drew.setCell ⟨go, k, none⟩ (.int .u8 ((u ^^^ p : Nat) : Int))) w.heap.size 5 1 (some ⟨go, 0, none⟩) n n (byt (lst n (sx O C s (k + 1))))) := hid (by
                have := hst.2.1
                rw [byt_setc, hs2] at this
                exact this)
              have HF2 : Hid (Kept (fun j => j = go) wq (wr.drew.setCell ⟨go, k, none⟩ (.int .u8 ((u ^^^ p : Nat) : Int)))) := hid ((unhid HF).drew.set ⟨go, k, none⟩ (fun _ => rfl) _)
              have hS9 := unhid HF2
              have k1 : (0 : Int) ≤ (k : Int) := by omega
              have k2 : (k : Int) < (n : Int) := by omega
              clear hg hst hs2 hu u0 hp p8 hcm ck8 hckg hck hcc
              go_wp2_with fail
              refine wp_region_held_drew (S := fun w' => Kept (fun j => j = go) wq w') (by kernel_rfl) (unhid HF).drew (fun hS => ?_)
              refine wpAnyH_take (i := 0) (v := .slice (some ⟨go, 0, none⟩) n n) rfl (by kernel_rfl) (by kernel_rfl) (by kernel_rfl) (fun _ _ _ h => h) (yields_of rfl (fun w => by go_simp)) hS ?_
              simp only [Act.put, List.setIfInBounds_toArray]
              refine wpAnyH_take (i := 1) (v := .int .i64 (k : Int)) rfl (by kernel_rfl) (by kernel_rfl) (by kernel_rfl) (fun _ _ _ h => h) (yields_of rfl (fun w => by go_simp)) hS ?_
              simp only [Act.put]
              refine wpAnyH_take (i := 2) (v := .slice (some ⟨go, 0, none⟩) n n) rfl (by kernel_rfl) (by kernel_rfl) (by kernel_rfl) (fun _ _ _ h => h) (yields_of rfl (fun w => by go_simp)) hS ?_
              simp only [Act.put]
              refine wpAnyH_take (i := 3) (v := .int .i64 (k : Int)) rfl (by kernel_rfl) (by kernel_rfl) (by kernel_rfl) (fun _ _ _ h => h) (yields_of rfl (fun w => by go_simp)) hS ?_
              simp only [Act.put]
              refine wpAnyH_take (i := 4) (v := .pointer (some ⟨go, k, none⟩)) rfl (by kernel_rfl) (by kernel_rfl) (by kernel_rfl) (fun _ _ _ h => h) (yields_of rfl (fun w => by go_simp)) hS ?_
              simp only [Act.put]
              refine wpAnyH_take (i := 6) (v := .slice (some ⟨gc, oc, none⟩) n cC) rfl (by kernel_rfl) (by kernel_rfl) (by kernel_rfl) (fun _ _ _ h => h) (yields_of rfl (fun w => by go_simp)) hS ?_
              simp only [Act.put]
              refine wpAnyH_take (i := 7) (v := .int .i64 (k : Int)) rfl (by kernel_rfl) (by kernel_rfl) (by kernel_rfl) (fun _ _ _ h => h) (yields_of rfl (fun w => by go_simp)) hS ?_
              simp only [Act.put]
              refine wpAnyH_take (i := 8) (v := .pointer (some ⟨gc, oc + k, none⟩)) rfl (by kernel_rfl) (by kernel_rfl) (by kernel_rfl) (fun _ _ _ h => h) (yields_of rfl (fun w => by go_simp)) hS ?_
              simp only [Act.put]
              refine wpAnyH_take (i := 9) (v := .int .u8 (ck : Int)) rfl (by kernel_rfl) (by kernel_rfl) (by kernel_rfl) (fun _ _ _ h => h) (.inl ⟨rfl, fun w h => by have e := (C0.out w h); go_simp⟩) hS ?_
              simp only [Act.put]
              refine wpAnyH_take (i := 10) (v := .int .u8 (s : Int)) rfl (by kernel_rfl) (by kernel_rfl) (by kernel_rfl) (fun _ _ _ h => h) (yields_of rfl (fun w => by go_simp)) hS ?_
              simp only [Act.put]
              refine wpAnyH_ready (rs := [5, 11]) (by kernel_rfl) (by simp) ?_
              refine AllReadyH.cons (o := _) rfl (fun K hK => ?_) (AllReadyH.cons (o := _) rfl (fun K hK => ?_) AllReadyH.nil)
              · go_simp
                refine hK.out _ _ hS (fun _ => ?_)
                refine wpAnyH_ready (rs := [11]) (by kernel_rfl) (by simp) ?_
                refine AllReadyH.cons (o := _) rfl (fun K hK => ?_) AllReadyH.nil
                go_simp
                refine ((unhid CM) _).mono ?_
                rintro e w' ⟨rfl, rfl⟩
                go_wp2_with fail
                refine hK.out _ _ hS (fun _ => ?_)
                refine wpAnyH_take (i := 12) (v := .int .u8 ((u ^^^ p : Nat) : Int)) rfl (by kernel_rfl) (by kernel_rfl) (by kernel_rfl) (fun _ _ _ h => h) (yields_of rfl (fun w => by go_simp)) hS ?_
                simp only [Act.put]
                refine wpAnyH_take (i := 13) (v := .pointer (some ⟨go, k, none⟩)) rfl (by kernel_rfl) (by kernel_rfl) (by kernel_rfl) (fun _ _ _ h => h) (yields_of rfl (fun w => by go_simp)) hS ?_
                simp only [Act.put]
                refine wpAnyH_ready (rs := [14]) (by kernel_rfl) (by simp) ?_
                refine AllReadyH.cons (o := _) rfl (fun K hK => ?_) AllReadyH.nil
                go_simp
                refine hK.out _ _ hS9 (fun _ => ?_)
                refine wpAnyH_done (by kernel_rfl) ?_ _
                clear hS hS9
                go_wp2_with fail
                go_roundw
                case rel => exact ⟨k + 1, by omega, by go_num, HP2, HF2⟩
                case measure => simp [intOf]; omega
              · go_simp
                refine ((unhid CM) _).mono ?_
                rintro e w' ⟨rfl, rfl⟩
                go_wp2_with fail
                refine hK.out _ _ hS (fun _ => ?_)
                refine wpAnyH_ready (rs := [5]) (by kernel_rfl) (by simp) ?_
                refine AllReadyH.cons (o := _) rfl (fun K hK => ?_) AllReadyH.nil
                go_simp
                refine hK.out _ _ hS (fun _ => ?_)
                refine wpAnyH_take (i := 12) (v := .int .u8 ((u ^^^ p : Nat) : Int)) rfl (by kernel_rfl) (by kernel_rfl) (by kernel_rfl) (fun _ _ _ h => h) (yields_of rfl (fun w => by go_simp)) hS ?_
                simp only [Act.put]
                refine wpAnyH_take (i := 13) (v := .pointer (some ⟨go, k, none⟩)) rfl (by kernel_rfl) (by kernel_rfl) (by kernel_rfl) (fun _ _ _ h => h) (yields_of rfl (fun w => by go_simp)) hS ?_
                simp only [Act.put]
                refine wpAnyH_ready (rs := [14]) (by kernel_rfl) (by simp) ?_
                refine AllReadyH.cons (o := _) rfl (fun K hK => ?_) AllReadyH.nil
                go_simp
                refine hK.out _ _ hS9 (fun _ => ?_)
                refine wpAnyH_done (by kernel_rfl) ?_ _
                clear hS hS9
                go_wp2_with fail
                go_roundw
                case rel => exact ⟨k + 1, by omega, by go_num, HP2, HF2⟩
                case measure => simp [intOf]; omega
            · have hkn2 : k = n := by omega
              have k2 : ¬ (k : Int) < (n : Int) := by omega
              rw [hkn2] at HN
              have hse2 := sx_end O C s (by rw [OL.out, CL.out])
              rw [OL.out] at hse2
              rw [hse2] at HN
              have HB' := hid ((unhid HB9).trans ((unhid HF).below hwq (fun j hj h => by omega)))
              clear hse2
              go_wp2_with fail
              go_roundw
              case rel => exact ⟨i + 1, _, by omega, by go_num, HN, HT2, HB'⟩
              case measure => simp [intOf]; omega
    · have hin2 : i = n := by omega
      have i2 : ¬ (i : Int) < (n : Int) := by omega
      rw [hin2] at HT
      clear hin2
      go_wp2_with fail
      go_ret
      exact ⟨go, O, rfl, unhid HO, unhid HT, unhid HB⟩
end Go.Proofs.Ytilaipdpbcfhkaa

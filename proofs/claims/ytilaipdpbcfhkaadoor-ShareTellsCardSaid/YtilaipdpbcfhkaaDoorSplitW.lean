/- The walk of share.Split. -/
import Derived.Test.YtilaipdpbcfhkaaDoorBackW
import Derived.Test.YtilaipdpbcfhkaaDoorShr
import Derived.Deep.RegionHeld
namespace Go.Proofs.YtilaipdpbcfhkaaDoor
set_option linter.unusedVariables false
open Go.RowKit Go.Mny
theorem bytS : Elt Tryd.prog 33 5 1 1 := Elt.of Tryd.underlying33 (.int .u8 0) (by kernel_rfl) rfl (by decide)
theorem shareS : Elt Tryd.prog 37 49 2 32 := Elt.of Tryd.underlying37 (.agg #[.int .u8 0, .slice none 0 0]) (by kernel_rfl) rfl (by decide)
def splitE (s : Nat) (n : Int) (M : List (List Nat)) : Int := if n < 1 ∨ 20 < n then 2 else if 100 < s ∨ 20 < M.length then 4 else if (M.all fun m => decide (m.length = s)) then 0 else 3
set_option maxHeartbeats 1000000 in
set_option maxRecDepth 100000 in
theorem split_no (M : List (List Nat)) (A A' : Option Addr) (s c n' c' D : Nat) (n : Int) (w : World) (hM : Mat w D A' n' M) (hn' : n' ≤ 9223372036854775807) (he : splitE s n M ≠ 0) :
    Calls Tryd.prog 18 #[.slice A s c, .int .i64 n, .slice A' n' c'] w fun e w' => e = .returned (.tuple #[.slice none 0 0, .iface 23 (.int .i64 (splitE s n M))]) ∧ w = w' := by
  have hml : M.length = n' := by obtain ⟨_, _, h, _⟩ := hM; exact h
  have HM := hid hM
  clear hM
  unfold splitE at he ⊢
  by_cases h1 : n < 1 ∨ 20 < n
  · rw [if_pos h1]
    have hcase : n < 1 ∨ (1 ≤ n ∧ 20 < n) := by omega
    clear he h1
    rcases hcase with h | ⟨h, h2⟩
    all_goals
      go_enter Tryd.func18, Tryd.ntmps18
      go_wp2_with fail
      go_ret2
      exact ⟨rfl, rfl⟩
  · rw [if_neg h1] at he ⊢
    have a1 : 1 ≤ n := by omega
    have a2 : n ≤ 20 := by omega
    clear h1
    by_cases h2 : 100 < s ∨ 20 < M.length
    · rw [if_pos h2]
      have hcase : (100 : Int) < (s : Int) ∨ ((s : Int) ≤ 100 ∧ (20 : Int) < (n' : Int)) := by omega
      clear he h2
      rcases hcase with h | ⟨h, h2⟩
      all_goals
        go_enter Tryd.func18, Tryd.ntmps18
        go_wp2_with fail
        go_ret2
        exact ⟨rfl, rfl⟩
    · rw [if_neg h2] at he ⊢
      have b1 : (s : Int) ≤ 100 := by omega
      have b2 : (n' : Int) ≤ 20 := by omega
      have hall : ¬ (M.all fun m => decide (m.length = s)) = true := fun h => he (if_pos h)
      rw [if_neg hall]
      have HA := hid hall
      have HL := hid hml
      clear he h2 hall hml
      go_enter Tryd.func18, Tryd.ntmps18
      go_wp2_with fail
      go_loop [36] (fun v36 => ∃ j : Nat, j ≤ n' ∧ v36 = .int .i64 j ∧ Hid (∀ m ∈ M.take j, m.length = s)) (fun v36 => n' - (intOf v36).toNat)
      case atStart => exact ⟨0, Nat.zero_le _, rfl, by intro m hm; simp at hm⟩
      case round =>
        obtain ⟨j, hj, rfl, HE⟩ := hrel
        by_cases hlt : j < n'
        · obtain ⟨g, o, m, A2, c2, rfl, hm, hc, hle, _⟩ := (unhid HM).at hlt
          have i1 : (0 : Int) ≤ (j : Int) := by omega
          have i2 : (j : Int) < (n' : Int) := by omega
          obtain ⟨q, hq⟩ : ∃ q, m.length = q := ⟨_, rfl⟩
          rw [hq] at hc
          have HQ := hid hq
          clear hq hle
          by_cases hqs : q = s
          · have hne : ((q : Int) != (s : Int)) = false := by simp; omega
            have HQS := hid hqs
            clear hqs
            go_wp2_with fail
            go_round
            case rel =>
              refine ⟨j + 1, by omega, by go_num, ?_⟩
              intro x hx
              rw [List.take_add_one, hm.out] at hx
              rcases List.mem_append.1 hx with hx | hx
              · exact HE.out x hx
              · obtain rfl : x = m := by simpa using hx
                rw [HQ.out]; exact HQS.out
            case measure => simp [intOf]; omega
          · have hne : ((q : Int) != (s : Int)) = true := by simp; omega
            clear hqs
            go_wp2_with fail
            go_ret2
            exact ⟨rfl, rfl⟩
        · exfalso
          refine HA.out ?_
          rw [List.all_eq_true]
          intro m hm
          have := HE.out m (by rw [List.take_of_length_le (by have := HL.out; omega)]; exact hm)
          exact decide_eq_true this
def SplitP (L : List (Nat × List Nat)) (w : World) (e : Ending) (w' : World) : Prop :=
  ∃ A c, e = .returned (.tuple #[.slice A L.length c, .nilIface]) ∧ Shs w' w.heap.size 49 5 A L.length c L ∧ Below w.heap.size w w'
set_option maxHeartbeats 4000000 in
set_option maxRecDepth 100000 in
theorem split_yes (sec : List Nat) (M : List (List Nat)) (A A' : Option Addr) (s c n' c' D n : Nat) (w : World) (hr : Row w D 1 A s (byt sec)) (hM : Mat w D A' n' M) (hD : D ≤ w.heap.size) (s8 : By8s sec) (m8 : ∀ m ∈ M, By8s m) (h1 : 1 ≤ n) (h2 : n ≤ 20) (h3 : s ≤ 100) (h4 : n' ≤ 20) (h5 : ∀ m ∈ M, m.length = s) :
    Calls Tryd.prog 18 #[.slice A s c, .int .i64 (n : Int), .slice A' n' c'] w (SplitP (splitN sec M n) w) := by
  have hml : M.length = n' := by obtain ⟨_, _, h, _⟩ := hM; exact h
  have hsl : sec.length = s := by have := hr.len; rw [byt_len] at this; omega
  have HR := hid hr; have HM := hid hM; have S8 := hid s8; have M8 := hid m8; have H5 := hid h5; have HML := hid hml; have HSL := hid hsl
  have a1 : (1 : Int) ≤ (n : Int) := by omega
  have a2 : (n : Int) ≤ 20 := by omega
  have a3 : (s : Int) ≤ 100 := by omega
  have a4 : (n' : Int) ≤ 20 := by omega
  clear hr hM s8 m8 h5 hml hsl
  go_enter Tryd.func18, Tryd.ntmps18
  go_wp2_with fail
  go_loop [36] (fun v36 => ∃ j : Nat, j ≤ n' ∧ v36 = .int .i64 j) (fun v36 => n' - (intOf v36).toNat)
  case atStart => exact ⟨0, Nat.zero_le _, rfl⟩
  case round =>
    obtain ⟨j, hj, rfl⟩ := hrel
    by_cases hlt : j < n'
    · obtain ⟨g, o, m, A2, c2, rfl, hm, hc, hle, _⟩ := (unhid HM).at hlt
      have i1 : (0 : Int) ≤ (j : Int) := by omega
      have i2 : (j : Int) < (n' : Int) := by omega
      rw [H5.out m (List.mem_of_getElem? hm.out)] at hc
      clear hle
      go_wp2_with fail
      go_round
      case rel => exact ⟨j + 1, by omega, by go_num⟩
      case measure => simp [intOf]; omega
    · have i2 : ¬ (j : Int) < (n' : Int) := by omega
      go_wp2_with fail
      go_loopw [10, 11] (fun v10 v11 wr => ∃ (k : Nat) (AO : Option Addr) (cO : Nat), k ≤ n ∧ v11 = .int .i64 ((k : Int) + 1) ∧ v10 = .slice AO k cO ∧ Hid (Shs wr w.heap.size 49 5 AO k cO (splitN sec M k)) ∧ Hid (Below w.heap.size w wr)) (fun _ v11 _ => 100 - (intOf v11).toNat)
      case atStart => exact ⟨0, none, 0, Nat.zero_le _, rfl, rfl, ⟨[], Own.none _ _ _ _, rfl, fun i x d h => by simp [splitN] at h⟩, Below.refl _ _⟩
      case round =>
        obtain ⟨k, AO, cO, hk, rfl, rfl, HO, HB⟩ := hrel
        by_cases hkn : k < n
        · obtain ⟨wk, hwk⟩ : ∃ wk : World, wk = wr := ⟨_, rfl⟩
          rw [← hwk] at HO HB
          rw [← hwk]
          clear hwk
          have k1 : (k : Int) + 1 ≤ (n : Int) := by omega
          have k2 : (0 : Int) ≤ (k : Int) + 1 := by omega
          have k3 : (k : Int) + 1 < 256 := by omega
          go_wp2_with fail
          have BS := hid (Blk.new wk 49 #[.int .u8 ((k : Int) + 1), .slice none 0 0])
          have E1 := hid ((Below.refl wk.heap.size wk).alloc (Nat.le_refl _) (.cells #[.int .u8 ((k : Int) + 1), .slice none 0 0] 49))
          have hz := (unhid HB).size
          have hsz : (wk.alloc (.cells #[.int .u8 ((k : Int) + 1), .slice none 0 0] 49)).heap.size = wk.heap.size + 1 := by simp
          generalize wk.alloc (.cells #[.int .u8 ((k : Int) + 1), .slice none 0 0] 49) = w1 at BS E1 hsz ⊢
          have hg1 : wk.heap.size < w1.heap.size := by omega
          clear hsz
          obtain ⟨gs, hgs⟩ : ∃ gs, wk.heap.size = gs := ⟨_, rfl⟩
          have hgs2 := hid hgs
          rw [hgs] at BS E1 hz hg1
          rw [hgs]
          clear hgs
          go_loopw [57] (fun v57 wr => ∃ (i : Nat) (AD : Option Addr) (cD : Nat), i ≤ s ∧ v57 = .int .i64 i ∧ Hid (Blk wr gs 49 #[.int .u8 ((k : Int) + 1), .slice AD i cD]) ∧ Hid (Mny.Own wr (gs + 1) 5 1 AD i cD (byt (datN sec M (k + 1) i))) ∧ Hid (Below gs wk wr)) (fun v57 _ => s - (intOf v57).toNat)
          case atStart => exact ⟨0, none, 0, Nat.zero_le _, rfl, BS, Own.none _ _ _ _, E1⟩
          case round =>
            obtain ⟨i, AD, cD, hi, rfl, HS, HD', HE⟩ := hrel
            have hgr := (unhid HS).lt'
            have hEr := hid (((unhid HB).trans ((unhid HE).mono hz)))
            by_cases his : i < s
            · obtain ⟨wl, hwl⟩ : ∃ wl : World, wl = wr := ⟨_, rfl⟩
              rw [← hwl] at HS HD' HE hgr hEr
              rw [← hwl]
              clear hwl
              obtain ⟨ga, oa, x, rfl, hga, hx, hcx⟩ := ((unhid HR).below ((unhid hEr).mono hD)).byte his
              have hxd : sec.getD i 0 = x := by rw [List.getD_eq_getElem?_getD, hx]; rfl
              have HX := hid hxd
              have i1 : (0 : Int) ≤ (i : Int) := by omega
              have i2 : (i : Int) < (s : Int) := by omega
              clear hx hxd
              go_wp2_with (at_builtin; refine halt_at (fun K hK => ?_))
              have OC : Hid (Mny.Own (wl.alloc (.cells #[.int .u8 (x : Int)] 5)) wl.heap.size 5 1 (some ⟨wl.heap.size, 0, none⟩) 1 1 (byt [x])) := hid (Own.lit_at wl wl.heap.size 5 1 1 wl.heap.size _ _ rfl (Nat.le_refl _) (by decide) rfl rfl)
              have EC := hid ((Below.refl wl.heap.size wl).alloc (Nat.le_refl _) (.cells #[.int .u8 (x : Int)] 5))
              generalize wl.alloc (.cells #[.int .u8 (x : Int)] 5) = w2 at OC EC ⊢
              generalize (some ⟨wl.heap.size, 0, none⟩ : Option Addr) = AC0 at OC ⊢
              have hwlz : wl.heap.size ≤ w2.heap.size := (unhid EC).size
              have hDl : D ≤ wl.heap.size := Nat.le_trans hD (unhid hEr).size
              have OC2 : Hid (Mny.Own w2 wl.heap.size 5 1 AC0 (1 + 0) 1 (byt (x :: col (M.take 0) i))) := OC
              go_loopw [15, 66] (fun v15 v66 wr => ∃ (j : Nat) (AC : Option Addr) (cC : Nat), j ≤ n' ∧ v66 = .int .i64 j ∧ v15 = .slice AC (1 + j) cC ∧ Hid (Mny.Own wr wl.heap.size 5 1 AC (1 + j) cC (byt (x :: col (M.take j) i))) ∧ Hid (Below wl.heap.size wl wr)) (fun _ v66 _ => n' - (intOf v66).toNat)
              case atStart => exact ⟨0, AC0, 1, Nat.zero_le _, rfl, rfl, OC2, EC⟩
              case round =>
                obtain ⟨j2, AC, cC, hj2, rfl, rfl, HC, HF⟩ := hrel
                have hFs := (unhid HF).size
                by_cases hjl : j2 < n'
                · have hEw := hid ((unhid hEr).trans ((unhid HF).mono (unhid hEr).size))
                  obtain ⟨gm, om, m, Am, cm, rfl, hm, hcm, hle, hrow⟩ := ((unhid HM).below ((unhid hEw).mono hD)).at hjl
                  have hms : m.length = s := H5.out m (List.mem_of_getElem? hm.out)
                  rw [hms] at hcm hrow hle
                  obtain ⟨gy, oy, y, rfl, hgy, hy, hcy⟩ := hrow.byte his
                  have hyd : m.getD i 0 = y := by rw [List.getD_eq_getElem?_getD, hy]; rfl
                  have hcol := col_snoc hm.out i
                  rw [hyd] at hcol
                  have HCOL := hid hcol
                  have j1 : (0 : Int) ≤ (j2 : Int) := by omega
                  have j3 : (j2 : Int) < (n' : Int) := by omega
                  clear hm hms hrow hy hyd hcol hEw
                  go_wp2_with (at_builtin; refine halt_at (fun K hK => ?_))
                  refine go_on hK ?_; clear hK
                  refine app_step bytS rfl (.tmp 70) (.tmp 75) rfl rfl ((unhid HC).alloc _) rfl (Row.lit_at _ _ _ _ _ (byt [y]) rfl rfl rfl) (byt_one _) (by simp [maxLen]; omega) (by omega) (by simp; omega) ?_
                  intro A2 c2 w3 o3 g3 l3
                  have b3 : Below wl.heap.size wl w3 := Below.grown ((unhid HF).alloc hFs _) g3 (by simp; omega) (fun q hq => ((unhid HC).from_ q hq).1)
                  rw [← byt_append, List.cons_append, ← HCOL.out, Nat.add_assoc] at o3
                  have HO3 := hid o3; have HB3 := hid b3
                  clear o3 b3 g3 l3 HC HF
                  rw [Nat.add_assoc]
                  go_wp2_with fail
                  go_roundw
                  case rel => exact ⟨j2 + 1, A2, c2, by omega, by go_num, rfl, HO3, HB3⟩
                  case measure => simp [intOf]; omega
                · have hjn : j2 = n' := by omega
                  subst hjn
                  have j3 : ¬ (j2 : Int) < (j2 : Int) := by omega
                  have htk : M.take j2 = M := List.take_of_length_le (by rw [HML.out]; exact Nat.le_refl _)
                  rw [htk] at HC
                  have hcl : (x :: col M i).length = 1 + j2 := by simp [col, HML.out]; omega
                  have c8 : By8s (x :: col M i) := by
                    intro z hz
                    rcases List.mem_cons.1 hz with rfl | hz
                    · rw [← HX.out]; exact getD_by S8.out i
                    · exact col_by M8.out i z hz
                  have hdat := datN_succ sec M (k + 1) i
                  rw [HX.out] at hdat
                  have HDAT := hid hdat
                  obtain ⟨C, hC⟩ : ∃ C, x :: col M i = C := ⟨_, rfl⟩
                  rw [hC] at HC hcl c8 HDAT
                  have C8 := hid c8
                  have HS2 := hid ((unhid HS).below (unhid HF) hgr)
                  have HD2 := hid ((unhid HD').below (unhid HF) (Nat.le_refl _))
                  have hFg := hid ((unhid HE).trans ((unhid HF).mono (by omega)))
                  clear htk hcl c8 hdat hC HS HD' HE OC OC2 EC
                  go_wp2_with fail
                  have VA : Hid (∀ w', Below wr.heap.size wr w' → Calls Tryd.prog 14 #[.slice AC (1 + j2) cC, .int .u8 ((k : Int) + 1)] w' fun e w'' => e = .returned (.int .u8 (Fld.ev C (k + 1) : Nat)) ∧ Below wr.heap.size wr w'') := hid fun w' hb =>
                    (value_any C (k + 1) AC (1 + j2) cC w'.heap.size w' (((Row.of_own (unhid HC)).below hb).more hb.size) (Nat.le_refl _) (by omega) C8.out (by omega)).mono fun e w'' h => ⟨h.1, hb.trans (h.2.mono hb.size)⟩
                  obtain ⟨v, hv⟩ : ∃ v, Fld.ev C (k + 1) = v := ⟨_, rfl⟩
                  rw [hv] at VA HDAT
                  have hgr2 : gs < wr.heap.size := by omega
                  have BL : Hid (∀ W, Below wr.heap.size wr W → Blk W gs 49 #[.int .u8 ((k : Int) + 1), .slice AD i cD]) := hid fun W hb => (unhid HS2).below hb hgr2
                  have hbd : Below wr.heap.size wr wr.drew := (Below.refl _ _).drew
                  have c1 := ((unhid BL) _ hbd).cell 1
                  have hFs2 := (unhid HF).size
                  simp at c1
                  clear hv HS2
                  refine wp_region_held_drew (S := fun w' => w'.cell? ⟨gs, 0, none⟩ = some (.int .u8 ((k : Int) + 1))) (by kernel_rfl) (((unhid BL) _ hbd).cell 0) (fun hS => ?_)
                  refine wpAnyH_take (i := 0) (v := .pointer (some ⟨gs, 1, none⟩)) rfl (by kernel_rfl) (by kernel_rfl) (by kernel_rfl) (fun _ _ _ h => h) (yields_of rfl (fun w => by go_simp)) hS ?_
                  simp only [Act.put, List.setIfInBounds_toArray]
                  refine wpAnyH_take (i := 2) (v := .slice AC (1 + j2) cC) rfl (by kernel_rfl) (by kernel_rfl) (by kernel_rfl) (fun _ _ _ h => h) (yields_of rfl (fun w => by go_simp)) hS ?_
                  simp only [Act.put]
                  refine wpAnyH_take (i := 3) (v := .pointer (some ⟨gs, 0, none⟩)) rfl (by kernel_rfl) (by kernel_rfl) (by kernel_rfl) (fun _ _ _ h => h) (yields_of rfl (fun w => by go_simp)) hS ?_
                  simp only [Act.put]
                  refine wpAnyH_take (i := 4) (v := .int .u8 ((k : Int) + 1)) rfl (by kernel_rfl) (by kernel_rfl) (by kernel_rfl) (fun _ _ _ h => h) (.inl ⟨rfl, fun w h => by go_simp⟩) hS ?_
                  simp only [Act.put]
                  refine wpAnyH_ready (rs := [1, 5]) (by kernel_rfl) (by simp) ?_
                  refine AllReadyH.cons (o := _) rfl (fun K hK => ?_) (AllReadyH.cons (o := _) rfl (fun K hK => ?_) AllReadyH.nil)
                  · go_simp
                    refine hK.out _ _ hS (fun hS1 => ?_)
                    refine wpAnyH_ready (rs := [5]) (by kernel_rfl) (by simp) ?_
                    refine AllReadyH.cons (o := _) rfl (fun K hK => ?_) AllReadyH.nil
                    go_simp
                    refine ((unhid VA) _ hbd).mono ?_
                    rintro e wq1 ⟨rfl, hb1⟩
                    have hbA := hb1.alloc hb1.size (.cells #[.int .u8 (v : Int)] 5)
                    go_wp2_with fail
                    refine hK.out _ _ (((unhid BL) _ hb1).cell 0) (fun hS2 => ?_)
                    refine wpAnyH_ready (rs := [6]) (by kernel_rfl) (by simp) ?_
                    refine AllReadyH.cons (o := _) rfl (fun K hK => ?_) AllReadyH.nil
                    go_simp
                    refine hK.out _ _ (((unhid BL) _ hbA).cell 0) (fun hS3 => ?_)
                    refine wpAnyH_ready (rs := [7]) (by kernel_rfl) (by simp) ?_
                    refine AllReadyH.cons (o := _) rfl (fun K hK => ?_) AllReadyH.nil
                    rw [if_pos (by rfl)]
                    refine app_wp bytS (.tmp 79) (.tmp 84) rfl rfl (((unhid HD2).below hb1 (Nat.le_refl _)).alloc _) rfl (Row.lit_at wq1 _ _ 1 _ (byt [v]) rfl rfl rfl) (byt_one _) (by simp [maxLen]; omega) (by omega) (by have := hb1.size; simp; omega) ?_
                    intro A2 c2 wq2 o2 g2 l2
                    have bl2 : Blk wq2 gs 49 #[.int .u8 ((k : Int) + 1), .slice AD i cD] := ((unhid BL) _ hbA).grown g2 (fun h => by have := ((unhid HD2).from_ gs h).1; omega)
                    have f2 : Below gs wk wq2 := ((unhid hFg).trans (hbA.mono (by omega))).grown g2 (by have := hb1.size; simp; omega) (fun q hq => by have := ((unhid HD2).from_ q hq).1; omega)
                    rw [← byt_append, ← HDAT.out] at o2
                    have d1 := bl2.cell 1
                    have d2 := bl2.free 1
                    simp at d1
                    refine hK.out _ _ (bl2.cell 0) (fun hS5 => ?_)
                    refine wpAnyH_take (i := 8) (v := .pointer (some ⟨gs, 1, none⟩)) rfl (by kernel_rfl) (by kernel_rfl) (by kernel_rfl) (fun _ _ _ h => h) (yields_of rfl (fun w => by go_simp)) hS5 ?_
                    simp only [Act.put]
                    refine wpAnyH_ready (rs := [9]) (by kernel_rfl) (by simp) ?_
                    refine AllReadyH.cons (o := _) rfl (fun K hK => ?_) AllReadyH.nil
                    have HSn : Hid (Blk (wq2.setCell ⟨gs, 1, none⟩ (.slice A2 (i + 1) c2)) gs 49 #[.int .u8 ((k : Int) + 1), .slice A2 (i + 1) c2]) := hid (bl2.put 1 (.slice A2 (i + 1) c2))
                    have HDn : Hid (Mny.Own (wq2.setCell ⟨gs, 1, none⟩ (.slice A2 (i + 1) c2)) (gs + 1) 5 1 A2 (i + 1) c2 (byt (datN sec M (k + 1) (i + 1)))) := hid (o2.keep fun q hq => Below.heap_setCell _ _ _ _ (by have := (o2.from_ q hq).1; show q ≠ gs; omega))
                    have HEn := hid (f2.setCell (p := ⟨gs, 1, none⟩) (Nat.le_refl _) (.slice A2 (i + 1) c2))
                    go_simp
                    refine hK.out _ _ ((unhid HSn).cell 0) (fun hS6 => ?_)
                    refine wpAnyH_done (by kernel_rfl) ?_ _
                    clear hS hS5 hS6 d1 d2 o2 bl2 f2 g2 l2
                    go_wp2_with fail
                    go_roundw
                    case rel => exact ⟨i + 1, A2, c2, by omega, by go_num, HSn, HDn, HEn⟩
                    case measure => simp [intOf]; omega
                  · go_simp
                    refine ((unhid VA) _ hbd).mono ?_
                    rintro e wq1 ⟨rfl, hb1⟩
                    have hbA := hb1.alloc hb1.size (.cells #[.int .u8 (v : Int)] 5)
                    go_wp2_with fail
                    refine hK.out _ _ (((unhid BL) _ hb1).cell 0) (fun hS2 => ?_)
                    refine wpAnyH_ready (rs := [1, 6]) (by kernel_rfl) (by simp) ?_
                    refine AllReadyH.cons (o := _) rfl (fun K hK => ?_) (AllReadyH.cons (o := _) rfl (fun K hK => ?_) AllReadyH.nil)
                    · have c1' := ((unhid BL) _ hb1).cell 1
                      simp at c1'
                      go_simp
                      refine hK.out _ _ (((unhid BL) _ hb1).cell 0) (fun hS4 => ?_)
                      refine wpAnyH_ready (rs := [6]) (by kernel_rfl) (by simp) ?_
                      refine AllReadyH.cons (o := _) rfl (fun K hK => ?_) AllReadyH.nil
                      go_simp
                      refine hK.out _ _ (((unhid BL) _ hbA).cell 0) (fun hS3 => ?_)
                      refine wpAnyH_ready (rs := [7]) (by kernel_rfl) (by simp) ?_
                      refine AllReadyH.cons (o := _) rfl (fun K hK => ?_) AllReadyH.nil
                      rw [if_pos (by rfl)]
                      refine app_wp bytS (.tmp 79) (.tmp 84) rfl rfl (((unhid HD2).below hb1 (Nat.le_refl _)).alloc _) rfl (Row.lit_at wq1 _ _ 1 _ (byt [v]) rfl rfl rfl) (byt_one _) (by simp [maxLen]; omega) (by omega) (by have := hb1.size; simp; omega) ?_
                      intro A2 c2 wq2 o2 g2 l2
                      have bl2 : Blk wq2 gs 49 #[.int .u8 ((k : Int) + 1), .slice AD i cD] := ((unhid BL) _ hbA).grown g2 (fun h => by have := ((unhid HD2).from_ gs h).1; omega)
                      have f2 : Below gs wk wq2 := ((unhid hFg).trans (hbA.mono (by omega))).grown g2 (by have := hb1.size; simp; omega) (fun q hq => by have := ((unhid HD2).from_ q hq).1; omega)
                      rw [← byt_append, ← HDAT.out] at o2
                      have d1 := bl2.cell 1
                      have d2 := bl2.free 1
                      simp at d1
                      refine hK.out _ _ (bl2.cell 0) (fun hS5 => ?_)
                      refine wpAnyH_take (i := 8) (v := .pointer (some ⟨gs, 1, none⟩)) rfl (by kernel_rfl) (by kernel_rfl) (by kernel_rfl) (fun _ _ _ h => h) (yields_of rfl (fun w => by go_simp)) hS5 ?_
                      simp only [Act.put]
                      refine wpAnyH_ready (rs := [9]) (by kernel_rfl) (by simp) ?_
                      refine AllReadyH.cons (o := _) rfl (fun K hK => ?_) AllReadyH.nil
                      have HSn : Hid (Blk (wq2.setCell ⟨gs, 1, none⟩ (.slice A2 (i + 1) c2)) gs 49 #[.int .u8 ((k : Int) + 1), .slice A2 (i + 1) c2]) := hid (bl2.put 1 (.slice A2 (i + 1) c2))
                      have HDn : Hid (Mny.Own (wq2.setCell ⟨gs, 1, none⟩ (.slice A2 (i + 1) c2)) (gs + 1) 5 1 A2 (i + 1) c2 (byt (datN sec M (k + 1) (i + 1)))) := hid (o2.keep fun q hq => Below.heap_setCell _ _ _ _ (by have := (o2.from_ q hq).1; show q ≠ gs; omega))
                      have HEn := hid (f2.setCell (p := ⟨gs, 1, none⟩) (Nat.le_refl _) (.slice A2 (i + 1) c2))
                      go_simp
                      refine hK.out _ _ ((unhid HSn).cell 0) (fun hS6 => ?_)
                      refine wpAnyH_done (by kernel_rfl) ?_ _
                      clear hS hS5 hS6 d1 d2 o2 bl2 f2 g2 l2
                      go_wp2_with fail
                      go_roundw
                      case rel => exact ⟨i + 1, A2, c2, by omega, by go_num, HSn, HDn, HEn⟩
                      case measure => simp [intOf]; omega
                    · go_simp
                      refine hK.out _ _ (((unhid BL) _ hbA).cell 0) (fun hS3 => ?_)
                      refine wpAnyH_ready (rs := [1]) (by kernel_rfl) (by simp) ?_
                      refine AllReadyH.cons (o := _) rfl (fun K hK => ?_) AllReadyH.nil
                      have c1' := ((unhid BL) _ hbA).cell 1
                      simp at c1'
                      go_simp
                      refine hK.out _ _ (((unhid BL) _ hbA).cell 0) (fun hS4 => ?_)
                      refine wpAnyH_ready (rs := [7]) (by kernel_rfl) (by simp) ?_
                      refine AllReadyH.cons (o := _) rfl (fun K hK => ?_) AllReadyH.nil
                      rw [if_pos (by rfl)]
                      refine app_wp bytS (.tmp 79) (.tmp 84) rfl rfl (((unhid HD2).below hb1 (Nat.le_refl _)).alloc _) rfl (Row.lit_at wq1 _ _ 1 _ (byt [v]) rfl rfl rfl) (byt_one _) (by simp [maxLen]; omega) (by omega) (by have := hb1.size; simp; omega) ?_
                      intro A2 c2 wq2 o2 g2 l2
                      have bl2 : Blk wq2 gs 49 #[.int .u8 ((k : Int) + 1), .slice AD i cD] := ((unhid BL) _ hbA).grown g2 (fun h => by have := ((unhid HD2).from_ gs h).1; omega)
                      have f2 : Below gs wk wq2 := ((unhid hFg).trans (hbA.mono (by omega))).grown g2 (by have := hb1.size; simp; omega) (fun q hq => by have := ((unhid HD2).from_ q hq).1; omega)
                      rw [← byt_append, ← HDAT.out] at o2
                      have d1 := bl2.cell 1
                      have d2 := bl2.free 1
                      simp at d1
                      refine hK.out _ _ (bl2.cell 0) (fun hS5 => ?_)
                      refine wpAnyH_take (i := 8) (v := .pointer (some ⟨gs, 1, none⟩)) rfl (by kernel_rfl) (by kernel_rfl) (by kernel_rfl) (fun _ _ _ h => h) (yields_of rfl (fun w => by go_simp)) hS5 ?_
                      simp only [Act.put]
                      refine wpAnyH_ready (rs := [9]) (by kernel_rfl) (by simp) ?_
                      refine AllReadyH.cons (o := _) rfl (fun K hK => ?_) AllReadyH.nil
                      have HSn : Hid (Blk (wq2.setCell ⟨gs, 1, none⟩ (.slice A2 (i + 1) c2)) gs 49 #[.int .u8 ((k : Int) + 1), .slice A2 (i + 1) c2]) := hid (bl2.put 1 (.slice A2 (i + 1) c2))
                      have HDn : Hid (Mny.Own (wq2.setCell ⟨gs, 1, none⟩ (.slice A2 (i + 1) c2)) (gs + 1) 5 1 A2 (i + 1) c2 (byt (datN sec M (k + 1) (i + 1)))) := hid (o2.keep fun q hq => Below.heap_setCell _ _ _ _ (by have := (o2.from_ q hq).1; show q ≠ gs; omega))
                      have HEn := hid (f2.setCell (p := ⟨gs, 1, none⟩) (Nat.le_refl _) (.slice A2 (i + 1) c2))
                      go_simp
                      refine hK.out _ _ ((unhid HSn).cell 0) (fun hS6 => ?_)
                      refine wpAnyH_done (by kernel_rfl) ?_ _
                      clear hS hS5 hS6 d1 d2 o2 bl2 f2 g2 l2
                      go_wp2_with fail
                      go_roundw
                      case rel => exact ⟨i + 1, A2, c2, by omega, by go_num, HSn, HDn, HEn⟩
                      case measure => simp [intOf]; omega
            · have hsi : i = s := by omega
              subst hsi
              have i2 : ¬ (i : Int) < (i : Int) := by omega
              have HSh := hid ((unhid HO).below (by rw [hgs2.out]; exact unhid HE))
              have hAO : Hid (∀ q, at_ AO = some q → q < gs) := hid fun q hq => by
                obtain ⟨es, ho, _⟩ := unhid HO
                have := (ho.from_ q hq).2
                rwa [hgs2.out] at this
              have d0 := (unhid HS).cell 0
              have d1 := (unhid HS).cell 1
              simp at d0 d1
              have hwr : w.heap.size ≤ wr.heap.size := by omega
              clear HO HE BS E1 hgs2
              go_wp2_with (at_builtin; refine halt_at (fun K hK => ?_))
              refine go_on hK ?_; clear hK
              obtain ⟨es, ho, hl, he⟩ := unhid HSh
              refine app_step shareS rfl (.tmp 88) (.tmp 90) rfl rfl (ho.alloc _) rfl (Row.lit_full wr _ _ 1 2 wr.heap.size [.int .u8 ((k : Int) + 1), .slice AD i cD] rfl rfl rfl) (by intro u hu; simp at hu; rcases hu with rfl | rfl <;> rfl) (by simp [maxLen]; omega) (by omega) (by simp; omega) ?_
              intro A2 c2 w3 o3 g3 l3
              have k3 : Kept (fun j => at_ AO = some j) wr w3 := ((Kept.refl (fun j => at_ AO = some j) wr).alloc _).trans (Kept.of_grown g3) (fun j _ h => h)
              have hdl : (datN sec M (k + 1) i).length = i := datN_len _ _ _ _
              have hd3 : 0 < (datN sec M (k + 1) i).length → Mny.Own w3 w.heap.size 5 1 AD (datN sec M (k + 1) i).length cD (byt (datN sec M (k + 1) i)) := fun _ => by
                rw [hdl]
                exact ((unhid HD').kept k3 (fun q hq h => by have := ((unhid HD').from_ q hq).1; have := hAO.out q h; omega)).less (by omega)
              have hsn := Shs.snoc ho hl he (by decide) k3 (k + 1) (datN sec M (k + 1) i) (by rw [hdl]; exact (unhid HD').le.1) hd3 (by rw [hdl]; exact o3)
              have hspl := splitN_succ sec M k
              rw [HSL.out] at hspl
              rw [← hspl] at hsn
              have HSN := hid hsn
              have HBN : Hid (Below w.heap.size w w3) := hid (Below.grown ((unhid hEr).alloc hwr _) g3 (by simp; omega) (fun q hq => (ho.from_ q hq).1))
              clear hsn hspl hd3 hdl k3 o3 g3 l3 ho hl he HSh hAO HS HD' d0 d1
              go_wp2_with fail
              go_roundw
              case rel => exact ⟨k + 1, A2, c2, by omega, by go_num, rfl, HSN, HBN⟩
              case measure => simp [intOf]; omega
        · have hkn2 : k = n := by omega
          subst hkn2
          have k1 : ¬ (k : Int) + 1 ≤ (k : Int) := by omega
          go_wp2_with fail
          go_ret2
          exact ⟨AO, cO, by rw [splitN_len]; rfl, by rw [splitN_len]; exact unhid HO, unhid HB⟩
end Go.Proofs.YtilaipdpbcfhkaaDoor

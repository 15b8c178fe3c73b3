/- The walk of the reference's Through: Newton's way. -/
import Derived.Test.YtilaipdpbcfhkaaDoorNewtonMath
import Derived.Test.YtilaipdpbcfhkaaDoorRefFieldW
import Derived.Test.YtilaipdpbcfhkaaDoorMake
import Derived.Deep.RegionHeld
namespace Go.Proofs.YtilaipdpbcfhkaaDoor
set_option linter.unusedVariables false
open Go.RowKit Go.Mny
theorem bytR : Elt Tryd.prog 33 5 1 1 := Elt.of Tryd.underlying33 (.int .u8 0) (by kernel_rfl) rfl (by decide)
def fnl (l : List Nat) (i : Nat) : Nat := l.getD i 0
def midD (P V : Nat → Nat) (k i q : Nat) : Nat := if i < q then Fld.DD P V (k + 1) q else Fld.DD P V k q
theorem midD_start (P V : Nat → Nat) (k n : Nat) (h : 1 ≤ n) : lst n (midD P V k (n - 1)) = lst n (Fld.DD P V k) := lst_congr fun q hq => by unfold midD; rw [if_neg (by omega)]
theorem midD_end (P V : Nat → Nat) (k n : Nat) : lst n (midD P V k k) = lst n (Fld.DD P V (k + 1)) := lst_congr fun q hq => by
  unfold midD
  by_cases h : k < q
  · rw [if_pos h]
  · rw [if_neg h, Fld.DD, if_neg (by omega)]
theorem midD_set (P V : Nat → Nat) (k i n : Nat) (hi : k < i) : (lst n (midD P V k i)).set i (Fld.mul (Fld.DD P V k i ^^^ Fld.DD P V k (i - 1)) (Fld.inv (P i ^^^ P (i - (k + 1))))) = lst n (midD P V k (i - 1)) :=
  lst_set fun q _ => by
    unfold midD
    by_cases h : q = i
    · subst h; rw [if_pos (by omega), if_pos rfl, Fld.DD, if_pos (by omega)]
    · rw [if_neg h]
      by_cases h1 : i < q
      · rw [if_pos (by omega), if_pos h1]
      · rw [if_neg (by omega), if_neg h1]
theorem byt_setr (l : List Nat) (i x : Nat) : (byt l).set i (.int .u8 (x : Int)) = byt (l.set i x) := by simp [byt, List.map_set]
theorem byt_getr {l : List Nat} {k x : Nat} (h : l[k]? = some x) : (byt l)[k]? = some (.int .u8 (x : Int)) := by rw [List.getElem?_map, h]; rfl
theorem fnl_get {l : List Nat} {i x : Nat} (h : l[i]? = some x) : fnl l i = x := by unfold fnl; rw [List.getD_eq_getElem?_getD, h]; rfl
set_option maxHeartbeats 4000000 in
set_option maxRecDepth 100000 in
theorem rthrough_any (at_ v : List Nat) (x : Nat) (A A' : Option Addr) (n c c' D : Nat) (w : World) (hr : Row w D 1 A n (byt at_)) (hv : Row w D 1 A' n (byt v)) (hD : D ≤ w.heap.size) (h1 : 1 ≤ n) (hn : n ≤ 1048576) (a8 : By8s at_) (v8 : By8s v) (hnd : at_.Nodup) (hx : x < 256) :
    Calls Tryd.prog 30 #[.slice A n c, .slice A' n c', .int .u8 (x : Int)] w fun e w' => e = .returned (.int .u8 (Fld.newtN at_ v x : Nat)) ∧ Below w.heap.size w w' := by
  have hal : at_.length = n := by have := hr.len; rw [byt_len] at this; omega
  have hvl : v.length = n := by have := hv.len; rw [byt_len] at this; omega
  have hP : ∀ i, fnl at_ i < 256 := fun i => getD_by a8 i
  have hV : ∀ i, fnl v i < 256 := fun i => getD_by v8 i
  have hdis : ∀ i k, i < n → k < n → i ≠ k → fnl at_ i ≠ fnl at_ k := fun i k hi hk hne e => by
    unfold fnl at e
    rw [List.getD_eq_getElem?_getD, List.getD_eq_getElem?_getD, List.getElem?_eq_getElem (by omega), List.getElem?_eq_getElem (by omega)] at e
    simp only [Option.getD_some] at e
    have hpw := List.pairwise_iff_getElem.1 hnd
    rcases Nat.lt_trichotomy i k with h | h | h
    · exact absurd e (hpw i k (by omega) (by omega) h)
    · exact hne h
    · exact absurd e.symm (hpw k i (by omega) (by omega) h)
  have hnw : Fld.newtN at_ v x = Fld.HN (fnl at_) (Fld.DD (fnl at_) (fnl v) (n - 1)) x 0 n := by unfold Fld.newtN; rw [hal]; rfl
  have hv0 : v = lst n (Fld.DD (fnl at_) (fnl v) 0) := (lst_of hvl fun q _ => rfl).symm
  have HA := hid hr; have HVR := hid hv; have HP := hid hP; have HV := hid hV; have HDI := hid hdis; have HNW := hid hnw; have HV0 := hid hv0
  have HGA : Hid (∀ i x, at_[i]? = some x → fnl at_ i = x) := hid fun i x h => fnl_get h
  obtain ⟨P, hPe⟩ : ∃ P, fnl at_ = P := ⟨_, rfl⟩
  obtain ⟨V, hVe⟩ : ∃ P, fnl v = P := ⟨_, rfl⟩
  rw [hPe] at HP HDI HNW HV0 HGA
  rw [hVe] at HV HNW HV0
  clear hr hv a8 v8 hnd hal hvl hP hV hdis hnw hv0 hPe hVe
  go_enter Tryd.func30, Tryd.ntmps30
  go_wp2_with (at_builtin; refine halt_at (fun K hK => ?_))
  refine go_on hK ?_; clear hK
  refine app_new bytR rfl (.tmp 12) (.tmp 13) rfl rfl (Own.lit_at _ _ 5 1 0 _ _ [] rfl (Nat.le_refl _) (by decide) rfl rfl) rfl ((unhid HVR).alloc hD _) (byt_one _) (by simp [maxLen]; omega) (by omega) (by simp) ?_
  intro A6 cd w6 o6 g6 l6
  have b6 := Below.grown ((Below.refl w.heap.size w).alloc (Nat.le_refl _) _) g6 (by simp) (fun q hq => by have e9 : w.heap.size = q := Option.some.inj hq; omega)
  obtain ⟨gd, _, rfl, hBg, -⟩ := o6.blk (by omega)
  have hdg : gd < w6.heap.size := (o6.from_ gd rfl).2
  rw [HV0.out] at o6
  have O6 := hid o6; have B6 := hid b6
  clear o6 b6 g6 l6
  go_wp2_with fail
  go_loopw [8] (fun v8 wr => ∃ k : Nat, k + 1 ≤ n ∧ v8 = .int .i64 ((k : Int) + 1) ∧ Hid (Mny.Own wr w.heap.size 5 1 (some ⟨gd, 0, none⟩) n cd (byt (lst n (Fld.DD P V k)))) ∧ Hid (Below w.heap.size w wr)) (fun v8 _ => n - (intOf v8).toNat)
  case atStart => exact ⟨0, by omega, rfl, O6, B6⟩
  case round =>
    obtain ⟨k, hk, rfl, HO, HB⟩ := hrel
    have bs := (unhid HB).size
    by_cases hkn : k + 1 < n
    · have i1 : (k : Int) + 1 < (n : Int) := by omega
      have hn1 : ((n - 1 : Nat) : Int) = (n : Int) - 1 := by omega
      go_wp2_with fail
      go_loopw [9] (fun v9 wr => ∃ i : Nat, k ≤ i ∧ i + 1 ≤ n ∧ v9 = .int .i64 (i : Int) ∧ Hid (Mny.Own wr w.heap.size 5 1 (some ⟨gd, 0, none⟩) n cd (byt (lst n (midD P V k i)))) ∧ Hid (Below w.heap.size w wr)) (fun v9 _ => (intOf v9).toNat)
      case atStart => exact ⟨n - 1, by omega, by omega, by rw [hn1], by rw [midD_start P V k n h1]; exact HO, HB⟩
      case round =>
        obtain ⟨i, hki, hin, rfl, HO2, HB2⟩ := hrel
        by_cases hlt : k < i
        · obtain ⟨i1, hi1⟩ : ∃ i1, i = i1 + 1 := ⟨i - 1, by omega⟩
          obtain ⟨j, hj⟩ : ∃ j, i = j + (k + 1) := ⟨i - (k + 1), by omega⟩
          have e1 : (i : Int) - 1 = (i1 : Int) := by omega
          have e2 : (i : Int) - ((k : Int) + 1) = (j : Int) := by omega
          have t0 : (k : Int) + 1 ≤ (i : Int) := by omega
          obtain ⟨ga, oa, ai, rfl, hga, hai, hca⟩ := (unhid HA).byte (show i < n by omega)
          obtain ⟨ga', oa', aj, ea, hga', haj, hcj⟩ := (unhid HA).byte (show j < n by omega)
          injection ea with ea
          injection ea with ea1 ea2
          subst ea1 ea2
          have vai := HGA.out i ai hai
          have vaj := HGA.out j aj haj
          have ai8 := HP.out i
          have aj8 := HP.out j
          have hne := HDI.out i j (by omega) (by omega) (by omega)
          have hset := midD_set P V k i n hlt
          rw [show i - (k + 1) = j by omega, show i - 1 = i1 by omega, vai, vaj] at hset
          rw [vai] at ai8 hne
          rw [vaj] at aj8 hne
          have hu8 := Fld.DD_lt HV.out (P := P) k i
          have hu18 := Fld.DD_lt HV.out (P := P) k i1
          have hgu : (lst n (midD P V k i))[i]? = some (Fld.DD P V k i) := by rw [lst_get _ (by omega)]; unfold midD; rw [if_neg (by omega)]
          have hgu1 : (lst n (midD P V k i))[i1]? = some (Fld.DD P V k i1) := by rw [lst_get _ (by omega)]; unfold midD; rw [if_neg (by omega)]
          have hgu2 : (lst n (midD P V k i1))[i1]? = some (Fld.DD P V k i1) := by rw [lst_get _ (by omega)]; unfold midD; rw [if_neg (by omega)]
          obtain ⟨u, hu⟩ : ∃ u, Fld.DD P V k i = u := ⟨_, rfl⟩
          obtain ⟨u1, hu1⟩ : ∃ u, Fld.DD P V k i1 = u := ⟨_, rfl⟩
          rw [hu] at hset hu8 hgu
          rw [hu1] at hset hu18 hgu1 hgu2
          have hxz := u8_xor ai aj ai8 aj8
          have hz8 := Fld.xor_lt _ _ ai8 aj8
          have hz0 : ai ^^^ aj ≠ 0 := fun e => hne (Fld.xor_eq_zero.1 e)
          obtain ⟨z, hz⟩ : ∃ z, ai ^^^ aj = z := ⟨_, rfl⟩
          rw [hz] at hxz hz8 hz0 hset
          have hci := fun w' : World => rinv_any z w' hz8 hz0
          have hiv8 := (Fld.inv_spec z hz8 hz0).2
          obtain ⟨iv, hiv⟩ : ∃ y, Fld.inv z = y := ⟨_, rfl⟩
          rw [hiv] at hset hci hiv8
          have hxs := u8_xor u u1 hu8 hu18
          have hs8 := Fld.xor_lt _ _ hu8 hu18
          obtain ⟨s, hs⟩ : ∃ s, u ^^^ u1 = s := ⟨_, rfl⟩
          rw [hs] at hxs hs8 hset
          have hcm := fun w' : World => rmul_any s iv w' hs8 hiv8
          obtain ⟨y, hy⟩ : ∃ y, Fld.mul s iv = y := ⟨_, rfl⟩
          rw [hy] at hset hcm
          have CI := hid hci; have CM := hid hcm
          have C0 : Hid (∀ W, Below w.heap.size w W → W.cell? ⟨ga, oa + i, none⟩ = some (.int .u8 (ai : Int)) ∧ W.cell? ⟨ga, oa + j, none⟩ = some (.int .u8 (aj : Int))) := hid fun W hW =>
            ⟨((hW.mono hD).cell (p := ⟨ga, oa + i, none⟩) hga).trans hca, ((hW.mono hD).cell (p := ⟨ga, oa + j, none⟩) hga).trans hcj⟩
          have hg := (unhid HO2).get1 (i := i) (by omega)
          have hg1 := (unhid HO2).get1 (i := i1) (by omega)
          have hcu : wr.cell? ⟨gd, i, none⟩ = some (.int .u8 (u : Int)) := hg.1.trans (byt_getr hgu)
          have hfu : wr.frozen? ⟨gd, i, none⟩ = false := hg.2
          have hc1 : wr.drew.cell? ⟨gd, i1, none⟩ = some (.int .u8 (u1 : Int)) := hg1.1.trans (byt_getr hgu1)
          have hst := (unhid HO2).drew.set1 (i := i) (by omega) (.int .u8 (y : Int))
          have hP2 : Mny.Own (wr.drew.setCell ⟨gd, i, none⟩ (.int .u8 (y : Int))) w.heap.size 5 1 (some ⟨gd, 0, none⟩) n cd (byt (lst n (midD P V k i1))) := by
            have := hst.2.1
            rw [byt_setr, hset] at this
            exact this
          have hcs := (hP2.get1 (i := i1) (by omega)).1.trans (byt_getr hgu2)
          have HP2 := hid hP2
          have HF2 : Hid (Below w.heap.size w (wr.drew.setCell ⟨gd, i, none⟩ (.int .u8 (y : Int)))) := hid ((unhid HB2).drew.setCell (p := ⟨gd, i, none⟩) hBg _)
          have hS9 : Below w.heap.size w (wr.drew.setCell ⟨gd, i, none⟩ (.int .u8 (y : Int))) ∧ (wr.drew.setCell ⟨gd, i, none⟩ (.int .u8 (y : Int))).cell? ⟨gd, i1, none⟩ = some (.int .u8 (u1 : Int)) := ⟨unhid HF2, hcs⟩
          have ws1 : IntKind.i64.wrap (i1 : Int) = (i1 : Int) := by simp [IntKind.wrap, IntKind.bits, IntKind.signed]; omega
          have ws2 : IntKind.i64.wrap (j : Int) = (j : Int) := by simp [IntKind.wrap, IntKind.bits, IntKind.signed]; omega
          have q1 : (0 : Int) ≤ (i : Int) := by omega
          have q2 : (i : Int) < (n : Int) := by omega
          have q3 : (0 : Int) ≤ (i1 : Int) := by omega
          have q4 : (i1 : Int) < (n : Int) := by omega
          have q5 : (0 : Int) ≤ (j : Int) := by omega
          have q6 : (j : Int) < (n : Int) := by omega
          have HI1 := hid hi1; have HJ := hid hj
          clear hg hg1 hgu hgu1 hgu2 hu hu1 hu8 hu18 hst hP2 hcs hset hz hz0 hz8 hci hiv hiv8 hs hs8 hcm hy vai vaj ai8 aj8 hne hai haj hca hcj hi1 hj
          go_wp2_with fail
          refine wp_region_held_drew (S := fun w' => Below w.heap.size w w' ∧ w'.cell? ⟨gd, i1, none⟩ = some (.int .u8 (u1 : Int))) (by kernel_rfl) ⟨(unhid HB2).drew, hc1⟩ (fun hS => ?_)
          refine wpAnyH_take (i := 0) (v := .slice (some ⟨gd, 0, none⟩) n cd) rfl (by kernel_rfl) (by kernel_rfl) (by kernel_rfl) (fun _ _ _ h => h) (yields_of rfl (fun w => by go_simp)) hS ?_
          simp only [Act.put, List.setIfInBounds_toArray]
          refine wpAnyH_take (i := 1) (v := .int .i64 (i : Int)) rfl (by kernel_rfl) (by kernel_rfl) (by kernel_rfl) (fun _ _ _ h => h) (yields_of rfl (fun w => by go_simp)) hS ?_
          simp only [Act.put]
          refine wpAnyH_take (i := 2) (v := .slice (some ⟨gd, 0, none⟩) n cd) rfl (by kernel_rfl) (by kernel_rfl) (by kernel_rfl) (fun _ _ _ h => h) (yields_of rfl (fun w => by go_simp)) hS ?_
          simp only [Act.put]
          refine wpAnyH_take (i := 3) (v := .int .i64 (i : Int)) rfl (by kernel_rfl) (by kernel_rfl) (by kernel_rfl) (fun _ _ _ h => h) (yields_of rfl (fun w => by go_simp)) hS ?_
          simp only [Act.put]
          refine wpAnyH_take (i := 4) (v := .pointer (some ⟨gd, i, none⟩)) rfl (by kernel_rfl) (by kernel_rfl) (by kernel_rfl) (fun _ _ _ h => h) (yields_of rfl (fun w => by go_simp)) hS ?_
          simp only [Act.put]
          refine wpAnyH_take (i := 6) (v := .slice (some ⟨gd, 0, none⟩) n cd) rfl (by kernel_rfl) (by kernel_rfl) (by kernel_rfl) (fun _ _ _ h => h) (yields_of rfl (fun w => by go_simp)) hS ?_
          simp only [Act.put]
          refine wpAnyH_take (i := 7) (v := .int .i64 (i : Int)) rfl (by kernel_rfl) (by kernel_rfl) (by kernel_rfl) (fun _ _ _ h => h) (yields_of rfl (fun w => by go_simp)) hS ?_
          simp only [Act.put]
          refine wpAnyH_take (i := 8) (v := .int .i64 (i1 : Int)) rfl (by kernel_rfl) (by kernel_rfl) (by kernel_rfl) (fun _ _ _ h => h) (yields_of rfl (fun w => by go_simp)) hS ?_
          simp only [Act.put]
          refine wpAnyH_take (i := 9) (v := .pointer (some ⟨gd, i1, none⟩)) rfl (by kernel_rfl) (by kernel_rfl) (by kernel_rfl) (fun _ _ _ h => h) (yields_of rfl (fun w => by go_simp)) hS ?_
          simp only [Act.put]
          refine wpAnyH_take (i := 10) (v := .int .u8 (u1 : Int)) rfl (by kernel_rfl) (by kernel_rfl) (by kernel_rfl) (fun _ _ _ h => h) (.inl ⟨rfl, fun w h => by have e := h.2; go_simp⟩) hS ?_
          simp only [Act.put]
          refine wpAnyH_take (i := 12) (v := .slice (some ⟨ga, oa, none⟩) n c) rfl (by kernel_rfl) (by kernel_rfl) (by kernel_rfl) (fun _ _ _ h => h) (yields_of rfl (fun w => by go_simp)) hS ?_
          simp only [Act.put]
          refine wpAnyH_take (i := 13) (v := .int .i64 (i : Int)) rfl (by kernel_rfl) (by kernel_rfl) (by kernel_rfl) (fun _ _ _ h => h) (yields_of rfl (fun w => by go_simp)) hS ?_
          simp only [Act.put]
          refine wpAnyH_take (i := 14) (v := .pointer (some ⟨ga, oa + i, none⟩)) rfl (by kernel_rfl) (by kernel_rfl) (by kernel_rfl) (fun _ _ _ h => h) (yields_of rfl (fun w => by go_simp)) hS ?_
          simp only [Act.put]
          refine wpAnyH_take (i := 15) (v := .int .u8 (ai : Int)) rfl (by kernel_rfl) (by kernel_rfl) (by kernel_rfl) (fun _ _ _ h => h) (.inl ⟨rfl, fun w h => by have e := (C0.out w h.1).1; go_simp⟩) hS ?_
          simp only [Act.put]
          refine wpAnyH_take (i := 16) (v := .slice (some ⟨ga, oa, none⟩) n c) rfl (by kernel_rfl) (by kernel_rfl) (by kernel_rfl) (fun _ _ _ h => h) (yields_of rfl (fun w => by go_simp)) hS ?_
          simp only [Act.put]
          refine wpAnyH_take (i := 17) (v := .int .i64 (i : Int)) rfl (by kernel_rfl) (by kernel_rfl) (by kernel_rfl) (fun _ _ _ h => h) (yields_of rfl (fun w => by go_simp)) hS ?_
          simp only [Act.put]
          refine wpAnyH_take (i := 18) (v := .int .i64 ((k : Int) + 1)) rfl (by kernel_rfl) (by kernel_rfl) (by kernel_rfl) (fun _ _ _ h => h) (yields_of rfl (fun w => by go_simp)) hS ?_
          simp only [Act.put]
          refine wpAnyH_take (i := 19) (v := .int .i64 (j : Int)) rfl (by kernel_rfl) (by kernel_rfl) (by kernel_rfl) (fun _ _ _ h => h) (yields_of rfl (fun w => by go_simp)) hS ?_
          simp only [Act.put]
          refine wpAnyH_take (i := 20) (v := .pointer (some ⟨ga, oa + j, none⟩)) rfl (by kernel_rfl) (by kernel_rfl) (by kernel_rfl) (fun _ _ _ h => h) (yields_of rfl (fun w => by go_simp)) hS ?_
          simp only [Act.put]
          refine wpAnyH_take (i := 21) (v := .int .u8 (aj : Int)) rfl (by kernel_rfl) (by kernel_rfl) (by kernel_rfl) (fun _ _ _ h => h) (.inl ⟨rfl, fun w h => by have e := (C0.out w h.1).2; go_simp⟩) hS ?_
          simp only [Act.put]
          refine wpAnyH_take (i := 22) (v := .int .u8 (z : Int)) rfl (by kernel_rfl) (by kernel_rfl) (by kernel_rfl) (fun _ _ _ h => h) (yields_of rfl (fun w => by go_simp)) hS ?_
          simp only [Act.put]
          refine wpAnyH_ready (rs := [5, 23]) (by kernel_rfl) (by simp) ?_
          refine AllReadyH.cons (o := _) rfl (fun K hK => ?_) (AllReadyH.cons (o := _) rfl (fun K hK => ?_) AllReadyH.nil)
          · go_simp
            refine hK.out _ _ hS (fun _ => ?_)
            refine wpAnyH_take (i := 11) (v := .int .u8 (s : Int)) rfl (by kernel_rfl) (by kernel_rfl) (by kernel_rfl) (fun _ _ _ h => h) (yields_of rfl (fun w => by go_simp)) hS ?_
            simp only [Act.put]
            refine wpAnyH_ready (rs := [23]) (by kernel_rfl) (by simp) ?_
            refine AllReadyH.cons (o := _) rfl (fun K hK => ?_) AllReadyH.nil
            go_simp
            refine ((unhid CI) _).mono ?_
            rintro e w' ⟨rfl, rfl⟩
            go_wp2_with fail
            refine hK.out _ _ hS (fun _ => ?_)
            refine wpAnyH_ready (rs := [24]) (by kernel_rfl) (by simp) ?_
            refine AllReadyH.cons (o := _) rfl (fun K hK => ?_) AllReadyH.nil
            go_simp
            refine ((unhid CM) _).mono ?_
            rintro e w' ⟨rfl, rfl⟩
            go_wp2_with fail
            refine hK.out _ _ hS (fun _ => ?_)
            refine wpAnyH_take (i := 25) (v := .pointer (some ⟨gd, i, none⟩)) rfl (by kernel_rfl) (by kernel_rfl) (by kernel_rfl) (fun _ _ _ h => h) (yields_of rfl (fun w => by go_simp)) hS ?_
            simp only [Act.put]
            refine wpAnyH_ready (rs := [26]) (by kernel_rfl) (by simp) ?_
            refine AllReadyH.cons (o := _) rfl (fun K hK => ?_) AllReadyH.nil
            go_simp
            refine hK.out _ _ hS9 (fun _ => ?_)
            refine wpAnyH_done (by kernel_rfl) ?_ _
            clear hS hS9
            go_wp2_with fail
            go_roundw
            case rel => exact ⟨i1, by have := HI1.out; omega, by have := HI1.out; omega, rfl, HP2, HF2⟩
            case measure => simp [intOf]; have := HI1.out; omega
          · go_simp
            refine ((unhid CI) _).mono ?_
            rintro e w' ⟨rfl, rfl⟩
            go_wp2_with fail
            refine hK.out _ _ hS (fun _ => ?_)
            refine wpAnyH_ready (rs := [5]) (by kernel_rfl) (by simp) ?_
            refine AllReadyH.cons (o := _) rfl (fun K hK => ?_) AllReadyH.nil
            go_simp
            refine hK.out _ _ hS (fun _ => ?_)
            refine wpAnyH_take (i := 11) (v := .int .u8 (s : Int)) rfl (by kernel_rfl) (by kernel_rfl) (by kernel_rfl) (fun _ _ _ h => h) (yields_of rfl (fun w => by go_simp)) hS ?_
            simp only [Act.put]
            refine wpAnyH_ready (rs := [24]) (by kernel_rfl) (by simp) ?_
            refine AllReadyH.cons (o := _) rfl (fun K hK => ?_) AllReadyH.nil
            go_simp
            refine ((unhid CM) _).mono ?_
            rintro e w' ⟨rfl, rfl⟩
            go_wp2_with fail
            refine hK.out _ _ hS (fun _ => ?_)
            refine wpAnyH_take (i := 25) (v := .pointer (some ⟨gd, i, none⟩)) rfl (by kernel_rfl) (by kernel_rfl) (by kernel_rfl) (fun _ _ _ h => h) (yields_of rfl (fun w => by go_simp)) hS ?_
            simp only [Act.put]
            refine wpAnyH_ready (rs := [26]) (by kernel_rfl) (by simp) ?_
            refine AllReadyH.cons (o := _) rfl (fun K hK => ?_) AllReadyH.nil
            go_simp
            refine hK.out _ _ hS9 (fun _ => ?_)
            refine wpAnyH_done (by kernel_rfl) ?_ _
            clear hS hS9
            go_wp2_with fail
            go_roundw
            case rel => exact ⟨i1, by have := HI1.out; omega, by have := HI1.out; omega, rfl, HP2, HF2⟩
            case measure => simp [intOf]; have := HI1.out; omega
        · have hik : i = k := by omega
          have t0 : ¬ (k : Int) + 1 ≤ (i : Int) := by omega
          rw [hik, midD_end] at HO2
          clear hik
          go_wp2_with fail
          go_roundw
          case rel => exact ⟨k + 1, by omega, by go_num, HO2, HB2⟩
          case measure => simp [intOf]; omega
    · have hk2 : n - 1 = k := by omega
      have i1 : ¬ (k : Int) + 1 < (n : Int) := by omega
      have hnw2 := HNW.out
      rw [hk2] at hnw2
      have HNW2 := hid hnw2
      obtain ⟨E, hE⟩ : ∃ E, Fld.DD P V k = E := ⟨_, rfl⟩
      have hE8 : ∀ i, E i < 256 := fun i => by rw [← hE]; exact Fld.DD_lt HV.out k i
      rw [hE] at HO HNW2
      have HE8 := hid hE8
      clear hk2 hnw2 hE hE8
      go_wp2_with fail
      go_loopw [10, 11] (fun v10 v11 wr => ∃ (i y : Nat), i ≤ n ∧ v11 = .int .i64 ((i : Int) - 1) ∧ v10 = .int .u8 (y : Int) ∧ Hid (Fld.HN P E x i (n - i) = y) ∧ Hid (Mny.Own wr w.heap.size 5 1 (some ⟨gd, 0, none⟩) n cd (byt (lst n E))) ∧ Hid (Below w.heap.size w wr)) (fun _ v11 _ => (intOf v11 + 1).toNat)
      case atStart => exact ⟨n, 0, Nat.le_refl _, rfl, rfl, hid (by rw [Nat.sub_self]; unfold Fld.HN; rfl), HO, HB⟩
      case round =>
        obtain ⟨i, y, hi, rfl, rfl, HY, HO2, HB2⟩ := hrel
        by_cases hi0 : 1 ≤ i
        · obtain ⟨q, rfl⟩ : ∃ q, i = q + 1 := ⟨i - 1, by omega⟩
          rw [show ((q + 1 : Nat) : Int) - 1 = (q : Int) by omega]
          obtain ⟨ga, oa, aq, rfl, hga, haq, hca⟩ := ((unhid HA).below ((unhid HB2).mono hD)).byte (show q < n by omega)
          have vaq := HGA.out q aq haq
          have aq8 := HP.out q
          rw [vaq] at aq8
          have hg := (unhid HO2).get1 (i := q) (by omega)
          obtain ⟨u, hu⟩ : ∃ u, E q = u := ⟨_, rfl⟩
          have hu8 := HE8.out q
          rw [hu] at hu8
          have hcu : wr.cell? ⟨gd, q, none⟩ = some (.int .u8 (u : Int)) := hg.1.trans (byt_getr (by rw [lst_get _ (by omega), hu]))
          have hy8 : y < 256 := by rw [← HY.out]; exact Fld.HN_lt (P := P) HE8.out x (q + 1) hx _
          have hxz := u8_xor x aq hx aq8
          have hz8 := Fld.xor_lt _ _ hx aq8
          obtain ⟨z, hz⟩ : ∃ z, x ^^^ aq = z := ⟨_, rfl⟩
          rw [hz] at hxz hz8
          have hcm := fun w' : World => rmul_any y z w' hy8 hz8
          have hp8 : Fld.mul y z < 256 := Fld.mul_lt _ _ hy8
          obtain ⟨p, hp⟩ : ∃ p, Fld.mul y z = p := ⟨_, rfl⟩
          rw [hp] at hcm hp8
          have hxr := u8_xor p u hp8 hu8
          obtain ⟨y', hy'⟩ : ∃ y, p ^^^ u = y := ⟨_, rfl⟩
          rw [hy'] at hxr
          have HY2 : Hid (Fld.HN P E x q (n - q) = y') := hid (by
            rw [show n - q = (n - (q + 1)) + 1 by omega, Fld.HN, HY.out, vaq, hz, hp, hu, hy'])
          have CM := hid hcm
          have t0 : (0 : Int) ≤ (q : Int) := by omega
          have t1 : (q : Int) < (n : Int) := by omega
          clear hg haq vaq aq8 hu hu8 hy8 hz hz8 hcm hp hp8 hy'
          go_wp2_with fail
          go_quiet ((go_at_call 8; exact ((unhid CM) _).mono fun _ _ hh => ⟨hh.1, ⟨_, hh.2.symm⟩⟩))
          go_wp2_with fail
          go_roundw
          case rel => exact ⟨q, y', by omega, rfl, rfl, HY2, hid ((unhid HO2).keep fun q hq => rfl), (unhid HB2).drewN _⟩
          case measure => simp [intOf]
        · have hi2 : i = 0 := by omega
          subst hi2
          rw [show ((0 : Nat) : Int) - 1 = -1 by omega]
          have HY3 : Hid (Fld.newtN at_ v x = y) := hid (by rw [HNW2.out, ← HY.out, Nat.sub_zero])
          go_wp2_with fail
          go_ret
          exact ⟨by rw [HY3.out]; rfl, unhid HB2⟩
end Go.Proofs.YtilaipdpbcfhkaaDoor

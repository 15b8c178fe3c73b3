/- The walks of same.Shares and of the law ShareTells. -/
import Derived.Test.YtilaipdpbcfhkaaDoorSplitRefW
import Derived.Test.YtilaipdpbcfhkaaDoorTold
import Derived.Test.YtilaipdpbcfhkaaDoorPieces
import Derived.OpenShut
namespace Go.Proofs.YtilaipdpbcfhkaaDoor
set_option linter.unusedVariables false
open Go.RowKit Go.Mny
set_option maxHeartbeats 2000000 in
set_option maxRecDepth 100000 in
theorem shares_same (L : List (Nat × List Nat)) (A B : Option Addr) (n c d D : Nat) (w : World) (hA : ShR w D A n L) (hB : ShR w D B n L) (hD : D ≤ w.heap.size) (hn : n ≤ 4611686018427387904) (hs : ∀ p ∈ L, p.2.length ≤ 1048576) :
    Calls Tryd.prog 19 #[.slice A n c, .slice B n d] w fun e w' => e = .returned (.bool true) ∧ Below w.heap.size w w' := by
  have hl : L.length = n := by obtain ⟨_, _, h, _⟩ := hA; exact h
  have HA := hid hA; have HB := hid hB; have HL := hid hl; have HS := hid hs
  clear hA hB hl hs
  go_enter Tryd.func19, Tryd.ntmps19
  go_wp2_with fail
  go_loopw [5] (fun v5 wr => ∃ i : Nat, i ≤ n ∧ v5 = .int .i64 i ∧ Hid (Below w.heap.size w wr)) (fun v5 _ => n - (intOf v5).toNat)
  case atStart => exact ⟨0, Nat.zero_le _, rfl, Below.refl _ _⟩
  case round =>
    obtain ⟨i, hi, rfl, HE⟩ := hrel
    by_cases hlt : i < n
    · obtain ⟨p, hp⟩ : ∃ p, L[i]? = some p := ⟨_, List.getElem?_eq_getElem (by rw [HL.out]; exact hlt)⟩
      obtain ⟨x, dd⟩ := p
      have hq : dd.length ≤ 1048576 := HS.out _ (List.mem_of_getElem? hp)
      have hz := (unhid HE).size
      have EM := (unhid HE).mono hD
      obtain ⟨g, o, A1, c1, rfl, hg, a0, a1, hl1, r1⟩ := ((unhid HA).below EM).at hlt hp
      obtain ⟨g', o', A2, c2, rfl, hg', b0, b1, hl2, r2⟩ := ((unhid HB).below EM).at hlt hp
      have i1 : (0 : Int) ≤ (i : Int) := by omega
      have i2 : (i : Int) < (n : Int) := by omega
      obtain ⟨q, hq2⟩ : ∃ q, dd.length = q := ⟨_, rfl⟩
      rw [hq2] at a1 b1 r1 r2 hq
      have HR1 := hid r1; have HR2 := hid r2
      have C0 : Hid (∀ w', Below wr.heap.size wr w' → w'.cell? ⟨g, o + i * 2, none⟩ = some (.int .u8 (x : Int)) ∧ w'.cell? ⟨g', o' + i * 2, none⟩ = some (.int .u8 (x : Int)) ∧ w'.cell? ⟨g, o + i * 2 + 1, none⟩ = some (.slice A1 q c1) ∧ w'.cell? ⟨g', o' + i * 2 + 1, none⟩ = some (.slice A2 q c2)) := hid fun w' hb =>
        ⟨(hb.cell (p := ⟨g, o + i * 2, none⟩) (by show g < _; omega)).trans a0, (hb.cell (p := ⟨g', o' + i * 2, none⟩) (by show g' < _; omega)).trans b0, (hb.cell (p := ⟨g, o + i * 2 + 1, none⟩) (by show g < _; omega)).trans a1, (hb.cell (p := ⟨g', o' + i * 2 + 1, none⟩) (by show g' < _; omega)).trans b1⟩
      have CB : Hid (∀ w', Below wr.heap.size wr w' → Calls Tryd.prog 23 #[.slice A1 q c1, .slice A2 q c2] w' fun e w'' => e = .returned (.bool true) ∧ Below wr.heap.size wr w'') := hid fun w' hb => by
        have hr1 : Row w' D 1 A1 q ((dd.map fun x : Nat => (x : Int)).map (Value.int .u8)) := by rw [List.map_map]; exact (unhid HR1).below (hb.mono (by omega))
        have hr2 : Row w' D 1 A2 q ((dd.map fun x : Nat => (x : Int)).map (Value.int .u8)) := by rw [List.map_map]; exact (unhid HR2).below (hb.mono (by omega))
        refine (bytes_any A1 A2 q c1 q c2 D D _ _ w' hr1 hr2 (by omega) (by omega)).mono ?_
        rintro e w'' ⟨kk, rfl, rfl⟩
        exact ⟨by simp, hb.drewN kk⟩
      clear a0 a1 b0 b1 r1 r2 hl1 hl2 hp hq2 EM
      go_wp2_with fail
      refine wp_region_held_drew (S := fun w' => Below wr.heap.size wr w') (by kernel_rfl) (Below.refl _ _).drew (fun hS => ?_)
      refine wpAnyH_take (i := 0) (v := .slice (some ⟨g, o, none⟩) n c) rfl (by kernel_rfl) (by kernel_rfl) (by kernel_rfl) (fun _ _ _ h => h) (yields_of rfl (fun w => by go_simp)) hS ?_
      simp only [Act.put, List.setIfInBounds_toArray]
      refine wpAnyH_take (i := 1) (v := .int .i64 (i : Int)) rfl (by kernel_rfl) (by kernel_rfl) (by kernel_rfl) (fun _ _ _ h => h) (yields_of rfl (fun w => by go_simp)) hS ?_
      simp only [Act.put]
      refine wpAnyH_take (i := 2) (v := .pointer (some ⟨g, o + i * 2, none⟩)) rfl (by kernel_rfl) (by kernel_rfl) (by kernel_rfl) (fun _ _ _ h => h) (yields_of rfl (fun w => by go_simp)) hS ?_
      simp only [Act.put]
      refine wpAnyH_take (i := 3) (v := .pointer (some ⟨g, o + i * 2 + 1, none⟩)) rfl (by kernel_rfl) (by kernel_rfl) (by kernel_rfl) (fun _ _ _ h => h) (yields_of rfl (fun w => by go_simp)) hS ?_
      simp only [Act.put]
      refine wpAnyH_take (i := 4) (v := .slice A1 q c1) rfl (by kernel_rfl) (by kernel_rfl) (by kernel_rfl) (fun _ _ _ h => h) (.inl ⟨rfl, fun w h => by have e := (C0.out w h).2.2.1; go_simp⟩) hS ?_
      simp only [Act.put]
      refine wpAnyH_take (i := 5) (v := .slice (some ⟨g', o', none⟩) n d) rfl (by kernel_rfl) (by kernel_rfl) (by kernel_rfl) (fun _ _ _ h => h) (yields_of rfl (fun w => by go_simp)) hS ?_
      simp only [Act.put]
      refine wpAnyH_take (i := 6) (v := .int .i64 (i : Int)) rfl (by kernel_rfl) (by kernel_rfl) (by kernel_rfl) (fun _ _ _ h => h) (yields_of rfl (fun w => by go_simp)) hS ?_
      simp only [Act.put]
      refine wpAnyH_take (i := 7) (v := .pointer (some ⟨g', o' + i * 2, none⟩)) rfl (by kernel_rfl) (by kernel_rfl) (by kernel_rfl) (fun _ _ _ h => h) (yields_of rfl (fun w => by go_simp)) hS ?_
      simp only [Act.put]
      refine wpAnyH_take (i := 8) (v := .pointer (some ⟨g', o' + i * 2 + 1, none⟩)) rfl (by kernel_rfl) (by kernel_rfl) (by kernel_rfl) (fun _ _ _ h => h) (yields_of rfl (fun w => by go_simp)) hS ?_
      simp only [Act.put]
      refine wpAnyH_take (i := 9) (v := .slice A2 q c2) rfl (by kernel_rfl) (by kernel_rfl) (by kernel_rfl) (fun _ _ _ h => h) (.inl ⟨rfl, fun w h => by have e := (C0.out w h).2.2.2; go_simp⟩) hS ?_
      simp only [Act.put]
      refine wpAnyH_ready (rs := [10]) (by kernel_rfl) (by simp) ?_
      refine AllReadyH.cons (o := _) rfl (fun K hK => ?_) AllReadyH.nil
      go_simp
      refine ((unhid CB) _ hS).mono ?_
      rintro e wq1 ⟨rfl, hb1⟩
      go_wp2_with fail
      refine hK.out _ _ hb1 (fun hS2 => ?_)
      refine wpAnyH_take (i := 11) (v := .bool true) rfl (by kernel_rfl) (by kernel_rfl) (by kernel_rfl) (fun _ _ _ h => h) (yields_of rfl (fun w => by go_simp)) hS2 ?_
      refine wpAnyH_done (by kernel_rfl) ?_ _
      go_simp
      have f0 := (C0.out _ hb1).1
      have f1 := (C0.out _ hb1).2.1
      have E1 := hid ((unhid HE).trans (hb1.mono hz))
      clear hS hS2 hb1 CB
      go_wp2_with fail
      go_region
      go_wp2_with fail
      go_roundw
      case rel => exact ⟨i + 1, by omega, by go_num, (unhid E1).drew⟩
      case measure => simp [intOf]; omega
    · have hin : i = n := by omega
      have i2 : ¬ (i : Int) < (n : Int) := by omega
      go_wp2_with fail
      go_ret
      exact ⟨rfl, unhid HE⟩
theorem nats_byt {l : List Int} (h : ∀ z ∈ l, (Lit.int .u8 z).wf = true) : l.map (Value.int .u8) = byt (l.map Int.toNat) ∧ By8s (l.map Int.toNat) := by
  refine ⟨?_, ?_⟩
  · unfold byt
    rw [List.map_map]
    refine List.map_congr_left fun z hz => ?_
    have := bounds_u8 (h z hz)
    simp; omega
  · intro x hx
    obtain ⟨z, hz, rfl⟩ := List.mem_map.1 hx
    have := bounds_u8 (h z hz)
    omega
theorem Sh.mat {w : World} {D m : Nat} {v : Value} (h : (Sh.slice 1 (.slice 1 (.int .u8))).ok w D m [v]) :
    ∃ (A : Option Addr) (n c : Nat) (M : List (List Nat)), v = .slice A n c ∧ n ≤ c ∧ Mat w D A n M ∧ (∀ r ∈ M, By8s r) ∧ n + 1 ≤ m := by
  obtain ⟨A, n, c, L, es, hv, h1, h2, hR, hL, hr, hm⟩ := Sh.rows h
  refine ⟨A, n, c, L.map fun l => l.map Int.toNat, hv, h1, ⟨es, hR, by simp [hL], fun i r hi => ?_⟩, ?_, by omega⟩
  · rw [List.getElem?_map] at hi
    cases hx : L[i]? with
    | none => rw [hx] at hi; simp at hi
    | some l =>
      rw [hx] at hi
      simp only [Option.map_some, Option.some.injEq] at hi
      subst hi
      obtain ⟨A', c', e1, e2, e3, e4, e5⟩ := hr i l hx
      refine ⟨A', c', by simpa using e1, by simpa using e2, ?_⟩
      rw [List.length_map, ← (nats_byt e5).1]; exact e4
  · intro r hr'
    obtain ⟨l, hl, rfl⟩ := List.mem_map.1 hr'
    obtain ⟨i, hi, rfl⟩ := List.getElem_of_mem hl
    obtain ⟨A', c', e1, e2, e3, e4, e5⟩ := hr i _ (List.getElem?_eq_getElem hi)
    exact (nats_byt e5).2
theorem fact7 : Fld.ev [5, 1] 2 = 7 := by decide +kernel
set_option maxHeartbeats 2000000 in
set_option maxRecDepth 100000 in
theorem shareTells_walk (A0 : Option Addr) (n0 c0 : Nat) (l0 : List Int) (a1 : Int) (A2 : Option Addr) (n2 c2 : Nat) (l2 : List Int) (a3 : Int) (A4 : Option Addr) (n4 c4 m4 : Nat) (w : World) (b0 : n0 ≤ c0) (g0 : c0 ≤ maxLen) (r0 : Row w w.heap.size 1 A0 n0 (l0.map (Value.int .u8))) (f0 : ∀ z ∈ l0, (Lit.int .u8 z).wf = true) (f1 : (Lit.int .u8 a1).wf = true) (b2 : n2 ≤ c2) (g2 : c2 ≤ maxLen) (r2 : Row w w.heap.size 1 A2 n2 (l2.map (Value.int .u8))) (f2 : ∀ z ∈ l2, (Lit.int .u8 z).wf = true) (f3 : (Lit.int .i64 a3).wf = true) (s4 : Sh.ok w w.heap.size (.slice 1 (.slice 1 (.int .u8))) m4 [.slice A4 n4 c4]) (hH : Hdl w) :
    Calls Tryd.prog 4 #[.slice A0 n0 c0, .int .u8 a1, .slice A2 n2 c2, .int .i64 a3, .slice A4 n4 c4] w fun e w' => e = .returned (.bool true) ∧ Below w.heap.size w w' := by
  have hn4 : n4 ≤ 9223372036854775807 := by
    obtain ⟨A, n, c, es, f, hv, h1, h2, _⟩ := s4
    simp only [List.cons.injEq, Value.slice.injEq, and_true] at hv
    obtain ⟨_, rfl, rfl⟩ := hv
    unfold maxLen at h2; omega
  have hn0 : n0 ≤ 9223372036854775807 := by unfold maxLen at g0; omega
  have hn2 : n2 ≤ 9223372036854775807 := by unfold maxLen at g2; omega
  obtain ⟨A, n, c, M, hv, hc1, hM, m8, hm⟩ := Sh.mat s4
  injection hv with e1 e2 e3
  subst e1 e2 e3
  have v1 := bounds_u8 f1
  obtain ⟨x, rfl⟩ := Int.eq_ofNat_of_zero_le v1.1
  have hx : x < 256 := by omega
  obtain ⟨q1, q2⟩ := nats_byt f0
  obtain ⟨q3, q4⟩ := nats_byt f2
  rw [q1] at r0
  rw [q3] at r2
  obtain ⟨b, hbb⟩ : ∃ b, l0.map Int.toNat = b := ⟨_, rfl⟩
  obtain ⟨sec, hsec⟩ : ∃ b, l2.map Int.toNat = b := ⟨_, rfl⟩
  rw [hbb] at r0 q2
  rw [hsec] at r2 q4
  have hsl : sec.length = n2 := by have := r2.len; rw [byt_len] at this; omega
  have R0 := hid r0; have R2 := hid r2; have HM := hid hM; have B8 := hid q2; have S8 := hid q4; have M8 := hid m8; have HH := hid hH; have HSL := hid hsl
  clear s4 hM m8 hm hc1 f0 f1 f2 f3 v1 q1 q3 q2 q4 r0 r2 hbb hsec hsl g0 g2 hH b0 b2
  go_enter Tryd.func4, Tryd.ntmps4
  obtain ⟨v, hv⟩ : ∃ v, Fld.ev b x = v := ⟨_, rfl⟩
  have V1 : Hid (∀ w', Below w.heap.size w w' → Calls Tryd.prog 14 #[.slice A0 n0 c0, .int .u8 (x : Int)] w' fun e w'' => e = .returned (.int .u8 (v : Nat)) ∧ Below w'.heap.size w' w'') := hid fun w' hb => by
    have := value_any b x A0 n0 c0 _ w' ((unhid R0).below hb) hb.size (by omega) B8.out hx
    rwa [hv] at this
  have V2 : Hid (∀ w', Below w.heap.size w w' → Calls Tryd.prog 15 #[.slice A0 n0 c0, .int .u8 (x : Int)] w' fun e w'' => e = .returned (.int .u8 (v : Nat)) ∧ w' = w'') := hid fun w' hb => by
    have := rvalue_any b x A0 n0 c0 _ w' ((unhid R0).below hb) (by omega) B8.out hx
    rwa [hv] at this
  obtain ⟨er, her⟩ : ∃ e, splitE n2 a3 M = e := ⟨_, rfl⟩
  have SF : Hid (∀ w', Below w.heap.size w w' → Calls Tryd.prog 16 #[.slice A2 n2 c2, .int .i64 a3, .slice A4 n4 c4] w' fun e w'' => e = .returned (.int .i64 er) ∧ w' = w'') := hid fun w' hb => by
    have := rfault_any M A2 A4 n2 c2 n4 c4 _ a3 w' ((unhid HM).below hb) (by omega)
    rwa [her] at this
  have HER := hid her
  clear hv her
  go_wp2_with fail
  refine ((unhid V1) _ (Below.refl _ _)).mono ?_
  rintro e w1 ⟨rfl, hb1⟩
  have E1 := hid hb1
  go_wp2_with fail
  refine ((unhid V2) _ (unhid E1)).mono ?_
  rintro e w' ⟨rfl, rfl⟩
  go_wp2_with fail
  refine ((unhid SF) _ (unhid E1)).mono ?_
  rintro e w' ⟨rfl, rfl⟩
  clear hb1
  by_cases he : er = 0
  case' pos =>
    have h := HER.out
    subst he
    unfold splitE at h
    have h1 : ¬ (a3 < 1 ∨ 20 < a3) := fun h' => by rw [if_pos h'] at h; cases h
    rw [if_neg h1] at h
    have h2 : ¬ (100 < n2 ∨ 20 < M.length) := fun h' => by rw [if_pos h'] at h; cases h
    rw [if_neg h2] at h
    have hml : M.length = n4 := by obtain ⟨_, _, h, _⟩ := unhid HM; exact h
    have h3 : (M.all fun m => decide (m.length = n2)) = true := by
      by_cases h' : (M.all fun m => decide (m.length = n2)) = true
      · exact h'
      · rw [if_neg h'] at h; cases h
    have h4 : Hid (∀ m ∈ M, m.length = n2) := hid fun m hm => of_decide_eq_true (List.all_eq_true.1 h3 m hm)
    obtain ⟨k, rfl⟩ := Int.eq_ofNat_of_zero_le (show 0 ≤ a3 by omega)
    have hp1 : Hid (splitE n2 (k : Int) M = 0) := HER
    have k1 : 1 ≤ k := by omega
    have k2 : k ≤ 20 := by omega
    have k3 : n2 ≤ 100 := by omega
    have k4 : n4 ≤ 20 := by omega
    have RS := hid fun w' (hb : Below w.heap.size w w') => rsplit_any sec M A2 A4 n2 c2 n4 c4 _ k w' ((unhid R2).below hb) ((unhid HM).below hb) hb.size S8.out M8.out k1 k2 k3 k4 h4.out
    have SS := hid fun w' (hb : Below w.heap.size w w') => split_yes sec M A2 A4 n2 c2 n4 c4 _ k w' ((unhid R2).below hb) ((unhid HM).below hb) hb.size S8.out M8.out k1 k2 k3 k4 h4.out
    have hLs : Hid (∀ p ∈ splitN sec M k, p.2.length ≤ 1048576) := hid fun p hp => by
      obtain ⟨i, _, rfl⟩ := List.mem_map.1 hp
      show (datN sec M (i + 1) sec.length).length ≤ 1048576
      rw [datN_len, HSL.out]; omega
    have hLl := splitN_len sec M k
    obtain ⟨L, hL⟩ : ∃ L, splitN sec M k = L := ⟨_, rfl⟩
    rw [hL] at RS SS hLs hLl
    have HLL := hid hLl
    clear h h1 h2 h3 hml hL hLl HER hp1 h4
    go_wp2_with fail
    refine ((unhid RS) _ (unhid E1)).mono ?_
    rintro e w2 ⟨AX, cX, rfl, sX, hb2⟩
    rw [HLL.out] at sX ⊢
    have E2 := hid ((unhid E1).trans (hb2.mono (unhid E1).size)); have X2 := hid (ShR.of_shs sX)
    clear hb2 sX
    go_wp2_with fail
    refine ((unhid SS) _ (unhid E2)).mono ?_
    rintro e w3 ⟨AY, cY, rfl, sY, hb3⟩
    rw [HLL.out] at sY ⊢
    have E3 := hid ((unhid E2).trans (hb3.mono (unhid E2).size)); have Y3 := hid (ShR.of_shs sY); have X3 := hid ((unhid X2).below hb3)
    have hs3 := hb3.size
    clear hb3 sY X2
    go_wp2_with fail
    refine (error_nil 0 _ ((unhid HH).of_below (unhid E3))).mono ?_
    rintro e w4 ⟨rfl, hb4⟩
    rw [show ((0 : Int) == 0) = true from rfl]
    have E4 := hid ((unhid E3).trans (hb4.mono (unhid E3).size)); have Y4 := hid ((unhid Y3).below hb4); have X4 := hid ((unhid X3).below (hb4.mono hs3))
    have SH : Hid (Calls Tryd.prog 19 #[.slice AY k cY, .slice AX k cX] w4 fun e w' => e = .returned (.bool true) ∧ Below w4.heap.size w4 w') := by
      have hd : w2.heap.size ≤ w3.heap.size := hs3
      obtain ⟨es, h1, h2, h3⟩ := unhid X4
      have X5 : ShR w4 w3.heap.size AX k L := ⟨es, h1.more hd, h2, fun i x d hi => by obtain ⟨A', c', e1, e2, e3, e4⟩ := h3 i x d hi; exact ⟨A', c', e1, e2, e3, e4.more hd⟩⟩
      exact hid (shares_same L AY AX k cY cX w3.heap.size w4 (unhid Y4) X5 hb4.size (by omega) hLs.out)
    clear hb4 Y3 X3 Y4 X4
    go_wp2_with fail
    refine (unhid SH).mono ?_
    rintro e w5 ⟨rfl, hb5⟩
    have E5 := hid ((unhid E4).trans (hb5.mono (unhid E4).size))
    clear hb5 SH
  case' neg =>
    have NO := hid fun w' (hb : Below w.heap.size w w') => split_no M A2 A4 n2 c2 n4 c4 _ a3 w' ((unhid HM).below hb) (by omega) (by rw [HER.out]; exact he)
    rw [HER.out] at NO
    have t1 : (er == 0) = false := by simp; exact he
    have EE := hid fun w' (hh : Hdl w') => error_err er er he w' hh
    clear he
    go_wp2_with fail
    refine ((unhid NO) _ (unhid E1)).mono ?_
    rintro e w' ⟨rfl, rfl⟩
    go_wp2_with fail
    refine ((unhid EE) _ ((unhid HH).of_below (unhid E1))).mono ?_
    rintro e w4 ⟨rfl, hb4⟩
    rw [show (er == er) = true by simp]
    have E4 := hid ((unhid E1).trans (hb4.mono (unhid E1).size))
    clear hb4
    go_wp2_with fail
    refine (shares_same [] none none 0 0 0 0 _ (ShR.none _ _ _) (ShR.none _ _ _) (Nat.zero_le _) (by decide) (fun p hp => by cases hp)).mono ?_
    rintro e w5 ⟨rfl, hb5⟩
    have E5 := hid ((unhid E4).trans (hb5.mono (unhid E4).size))
    clear hb5
  all_goals
    go_wp2_with fail
    have V5 := value_any [5, 1] 2 (some ⟨w5.heap.size, 0, none⟩) 2 2 _ (w5.alloc (.cells #[.int .u8 5, .int .u8 1] 5)) (Row.lit w5 5 #[.int .u8 5, .int .u8 1] 2 (byt [5, 1]) rfl rfl) (by simp) (by decide) (by decide) (by decide)
    rw [fact7] at V5
    refine V5.mono ?_
    rintro e w6 ⟨rfl, hb6⟩
    have E6 := hid (((unhid E5).alloc (unhid E5).size _).trans (hb6.mono (by have := (unhid E5).size; simp; omega)))
    clear hb6 V5
    go_wp2_with fail
    go_ret
    exact ⟨by simp, unhid E6⟩
end Go.Proofs.YtilaipdpbcfhkaaDoor

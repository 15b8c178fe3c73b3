/- The walks of the law's own 'fact' and of the law BidTruth. -/
import Derived.Test.YtlaoijnlemgdfaaDoorBidSoldW
import Derived.OpenShut
namespace Go.Proofs.YtlaoijnlemgdfaaDoor
set_option linter.unusedVariables false
open Go.RowKit Go.Mny
theorem fact_aw : Aw (Ml [3, 9, 7]) 2 1 7 := by
  have hM : ∀ u a, Ml [3, 9, 7] u a → (u = 0 ∧ a = 3) ∨ (u = 1 ∧ a = 9) ∨ (u = 2 ∧ a = 7) := by
    rintro u a ⟨i, hi, hu⟩
    match i, hi with
    | 0, hi => simp at hi; omega
    | 1, hi => simp at hi; omega
    | 2, hi => simp at hi; omega
    | i + 3, hi => simp at hi
  refine .inr ⟨9, ⟨1, rfl, rfl⟩, by decide, fun u c h hn => ?_, by decide, fun u c h hn => ?_, .inr ⟨2, 7, ⟨2, rfl, rfl⟩, by decide, rfl⟩⟩
  · have := hM u c h; omega
  · have := hM u c h; omega
set_option maxHeartbeats 400000 in
set_option maxRecDepth 100000 in
theorem fact_any (w : World) (hL : Laid w) (hr : 1 < w.heap.size) :
    Calls Tryd.prog 23 #[] w fun e w' => e = .returned (.bool true) ∧ Below w.heap.size w w' := by
  have B0 := Blk.new w 3 #[.int .i64 3, .int .i64 9, .int .i64 7]
  have EE : Below w.heap.size w (w.alloc (.cells #[.int .i64 3, .int .i64 9, .int .i64 7] 3)) := (Below.refl _ _).alloc (Nat.le_refl _) _
  have hz : (w.alloc (.cells #[.int .i64 3, .int .i64 9, .int .i64 7] 3)).heap.size = w.heap.size + 1 := by simp
  have R0 : Row (w.alloc (.cells #[.int .i64 3, .int .i64 9, .int .i64 7] 3)) (w.heap.size + 1) 1 (some ⟨w.heap.size, 0, none⟩) 3 (([3, 9, 7] : List Int).map (Value.int .i64)) := B0.row (by omega) rfl (fun j hj => by simp)
  have SO := hid (sold_any [3, 9, 7] 2 (some ⟨w.heap.size, 0, none⟩) 3 3 (w.heap.size + 1) _ R0 (by decide) (by rw [hz]; exact Nat.le_refl _) (by decide) (hL.below EE hr) (by rw [hz]; omega))
  have E1 := hid EE
  clear B0 EE R0 hL
  go_enter Tryd.func23, Tryd.ntmps23
  go_wp2_with fail
  refine (unhid SO).mono ?_
  rintro e w2 ⟨h, hb⟩
  have E2 := hid ((unhid E1).trans (hb.mono (by rw [hz]; omega)))
  clear hb SO hz
  rcases h with ⟨hb, _⟩ | ⟨_, x, p, haw, rfl⟩
  · exfalso
    rcases hb with ⟨a, ha, h⟩ | h
    · simp at ha; omega
    · omega
  · obtain ⟨rfl, rfl⟩ := haw.unique Ml.fun fact_aw
    clear haw
    go_wp2_with fail
    go_ret
    exact ⟨by simp, unhid E2⟩
theorem Ml_set {l : List Int} {i : Nat} {v : Int} (hi : i < l.length) (u a : Int) : Ml (l.set i v) u a ↔ (u = (i : Int) ∧ a = v) ∨ (u ≠ (i : Int) ∧ Ml l u a) := by
  constructor
  · rintro ⟨j, hj, hu⟩
    by_cases e : j = i
    · subst e
      rw [List.getElem?_set_self hi] at hj
      exact .inl ⟨hu, (Option.some.inj hj).symm⟩
    · rw [List.getElem?_set_ne (fun h => e h.symm)] at hj
      exact .inr ⟨by omega, j, hj, hu⟩
  · rintro (⟨rfl, rfl⟩ | ⟨hu, j, hj, hu2⟩)
    · exact ⟨i, List.getElem?_set_self hi, rfl⟩
    · exact ⟨j, by rw [List.getElem?_set_ne (by omega)]; exact hj, hu2⟩
theorem bad_set {l : List Int} {least : Int} {i : Nat} {v : Int} (hi : i < l.length) (hv : 0 ≤ v) : bad (l.set i v) least ↔ (∃ j a, j ≠ i ∧ l[j]? = some a ∧ a < 0) ∨ least < 0 := by
  unfold bad
  constructor
  · rintro (⟨a, ha, h⟩ | h)
    · obtain ⟨j, hj, rfl⟩ := List.getElem_of_mem ha
      rw [List.length_set] at hj
      by_cases e : i = j
      · subst e; rw [List.getElem_set_self] at h; omega
      · rw [List.getElem_set_ne e] at h
        exact .inl ⟨j, _, fun e' => e e'.symm, List.getElem?_eq_getElem hj, h⟩
    · exact .inr h
  · rintro (⟨j, a, hne, hj, h⟩ | h)
    · refine .inl ⟨a, ?_, h⟩
      have : (l.set i v)[j]? = some a := by rw [List.getElem?_set_ne (fun e => hne e.symm)]; exact hj
      exact List.mem_of_getElem? this
    · exact .inr h
/-- VICKREY -/
theorem vickrey {l : List Int} {least worth other w p x q : Int} {me : Nat} (hi : me < l.length) (h1 : Aw (Ml (l.set me worth)) least w p) (h2 : Aw (Ml (l.set me other)) least x q) :
    (w = (me : Int) → least ≤ p ∧ p ≤ worth) ∧ (x = (me : Int) → least ≤ q ∧ (q = least ∨ ∃ a ∈ l, a = q)) ∧ (w = (me : Int) → x = (me : Int) → p ≤ q) ∧ (w ≠ (me : Int) → x = (me : Int) → worth ≤ q) := by
  have m1 := Ml_set (v := worth) hi
  have m2 := Ml_set (v := other) hi
  have hm : (me : Int) ≠ -1 := by omega
  have hw : w = (me : Int) → ∃ a, a = worth ∧ least ≤ a ∧ (∀ u c, Ml (l.set me worth) u c → u ≠ w → c < a ∨ (c = a ∧ w < u)) ∧ least ≤ p ∧ (∀ u c, Ml (l.set me worth) u c → u ≠ w → c ≤ p) ∧ (p = least ∨ ∃ u c, Ml (l.set me worth) u c ∧ u ≠ w ∧ c = p) := fun e => by
    rcases h1 with ⟨_, h, _⟩ | ⟨a, k1, k2⟩
    · exact absurd (e.symm.trans h) hm
    · rcases (m1 w a).1 k1 with ⟨_, k⟩ | ⟨k, _⟩
      · exact ⟨a, k, k2⟩
      · exact absurd e k
  have hx : x = (me : Int) → least ≤ q ∧ (∀ u c, Ml l u c → u ≠ (me : Int) → c ≤ q) ∧ (q = least ∨ ∃ u c, Ml l u c ∧ u ≠ (me : Int) ∧ c = q) := fun e => by
    rcases h2 with ⟨_, h, _⟩ | ⟨a, k1, k2, k3, k4, k5, k6⟩
    · exact absurd (e.symm.trans h) hm
    · refine ⟨k4, fun u c hc hu => k5 u c ((m2 u c).2 (.inr ⟨hu, hc⟩)) (by rw [e]; exact hu), ?_⟩
      rcases k6 with h | ⟨u, c, hc, hu, hq⟩
      · exact .inl h
      · rw [e] at hu
        rcases (m2 u c).1 hc with ⟨h, _⟩ | ⟨_, h⟩
        · exact absurd h hu
        · exact .inr ⟨u, c, h, hu, hq⟩
  refine ⟨fun e => ?_, fun e => ?_, fun e e' => ?_, fun e e' => ?_⟩
  · obtain ⟨a, rfl, k2, k3, k4, k5, k6⟩ := hw e
    refine ⟨k4, ?_⟩
    rcases k6 with rfl | ⟨u, c, hc, hu, rfl⟩
    · exact k2
    · have := k3 u _ hc hu; omega
  · obtain ⟨k1, k2, k3⟩ := hx e
    refine ⟨k1, ?_⟩
    rcases k3 with h | ⟨u, c, ⟨i, hi', _⟩, _, rfl⟩
    · exact .inl h
    · exact .inr ⟨_, List.mem_of_getElem? hi', rfl⟩
  · obtain ⟨a, _, _, _, _, _, k6⟩ := hw e
    obtain ⟨j1, j2, _⟩ := hx e'
    rcases k6 with rfl | ⟨u, c, hc, hu, rfl⟩
    · exact j1
    · rw [e] at hu
      rcases (m1 u _).1 hc with ⟨h, _⟩ | ⟨_, h⟩
      · exact absurd h hu
      · exact j2 u _ h hu
  · obtain ⟨j1, j2, _⟩ := hx e'
    rcases h1 with ⟨k1, _, _⟩ | ⟨a, k1, k2, k3, _⟩
    · have := k1 (me : Int) worth ((m1 _ _).2 (.inl ⟨rfl, rfl⟩)); omega
    · have h3 := k3 (me : Int) worth ((m1 _ _).2 (.inl ⟨rfl, rfl⟩)) (fun h => e h.symm)
      rcases (m1 w a).1 k1 with ⟨h, _⟩ | ⟨h, hm'⟩
      · exact absurd h e
      · have := j2 w a hm' e
        omega
theorem intE : Elt Tryd.prog 32 3 1 8 := Elt.of Tryd.underlying32 (.int .i64 0) (by kernel_rfl) rfl (by decide)
theorem intSz : (Tryd.prog.info? 3).map (·.size) = some 1 := by kernel_rfl
theorem ints_set (l : List Int) (i : Nat) (v : Int) : (l.map (Value.int .i64)).set i (.int .i64 v) = (l.set i v).map (Value.int .i64) := by rw [List.map_set]
theorem wf_set {l : List Int} {i : Nat} {v : Int} (h : ∀ z ∈ l, (Lit.int .i64 z).wf = true) (hv : (Lit.int .i64 v).wf = true) : ∀ z ∈ l.set i v, (Lit.int .i64 z).wf = true := fun z hz => by
  rcases List.mem_or_eq_of_mem_set hz with h' | rfl
  · exact h z h'
  · exact hv
set_option maxHeartbeats 4000000 in
set_option maxRecDepth 100000 in
theorem bidTruth_walk (A0 : Option Addr) (n0 c0 : Nat) (l0 : List Int) (a1 : Int) (a2 : Int) (a3 : Int) (a4 : Int) (w : World) (b0 : n0 ≤ c0) (g0 : c0 ≤ maxLen) (r0 : Row w w.heap.size 1 A0 n0 (l0.map (Value.int .i64))) (f0 : ∀ z ∈ l0, (Lit.int .i64 z).wf = true) (f1 : (Lit.int .i64 a1).wf = true) (f2 : (Lit.int .i64 a2).wf = true) (f3 : (Lit.int .i64 a3).wf = true) (f4 : (Lit.int .i64 a4).wf = true) (hL : Laid w) (h0 : 1 < w.heap.size) :
    Calls Tryd.prog 7 #[.slice A0 n0 c0, .int .i64 a1, .int .i64 a2, .int .i64 a3, .int .i64 a4] w fun e w' => e = .returned (.bool true) ∧ Below w.heap.size w w' := by
  have hll : l0.length = n0 := by have := r0.len; rw [List.length_map] at this; omega
  have R0 := hid r0; have F0 := hid f0; have F1 := hid f1; have F3 := hid f3; have F4 := hid f4; have HL := hid hL; have HLL := hid hll
  clear r0 f0 f1 f2 f3 f4 hL hll b0 g0
  go_enter Tryd.func7, Tryd.ntmps7
  go_wp2_with fail
  refine (fact_any _ (unhid HL) h0).mono ?_
  rintro e w1 ⟨rfl, hb1⟩
  have E1 := hid hb1
  clear hb1
  by_cases t1 : a2 < 0
  · go_wp2_with fail
    go_ret
    exact ⟨rfl, unhid E1⟩
  by_cases t2 : (n0 : Int) ≤ a2
  · go_wp2_with fail
    go_ret
    exact ⟨rfl, unhid E1⟩
  by_cases t3 : (40 : Int) < (n0 : Int)
  · go_wp2_with fail
    go_ret
    exact ⟨rfl, unhid E1⟩
  by_cases t4 : a3 < 0
  · go_wp2_with fail
    go_ret
    exact ⟨rfl, unhid E1⟩
  by_cases t5 : a4 < 0
  · go_wp2_with fail
    go_ret
    exact ⟨rfl, unhid E1⟩
  obtain ⟨me, rfl⟩ := Int.eq_ofNat_of_zero_le (show 0 ≤ a2 by omega)
  have hme : me < n0 := by omega
  have i1 : (0 : Int) ≤ (me : Int) := by omega
  have i2 : (me : Int) < (n0 : Int) := by omega
  have T3 := hid (show n0 ≤ 40 by omega); have T4 := hid (show 0 ≤ a3 by omega); have T5 := hid (show 0 ≤ a4 by omega)
  have hw1 := (unhid E1).size
  go_wp2_with (at_builtin; refine halt_at (fun K hK => ?_))
  clear t1 t2 t3 t4 t5
  refine go_on hK ?_; clear hK
  refine app_new intE rfl (.tmp 45) (.tmp 46) rfl rfl (Own.lit_at _ _ 3 1 0 _ _ [] rfl (Nat.le_refl _) (by decide) rfl rfl) rfl (((unhid R0).below (unhid E1)).alloc hw1 _) (ints_one .i64 _) (by have := T3.out; simp [maxLen]; omega) (by have := T3.out; omega) (by simp) ?_
  intro A6 c6 w6 o6 g6 l6
  have b6 := Below.grown ((Below.refl w1.heap.size w1).alloc (Nat.le_refl _) _) g6 (by simp) (fun q hq => by have e9 : w1.heap.size = q := Option.some.inj hq; omega)
  obtain ⟨g, _, rfl, hBg, -⟩ := o6.blk (by omega)
  have O6 := hid o6; have E6 := hid ((unhid E1).trans (b6.mono hw1))
  clear o6 b6 g6 l6
  go_wp2_with (with_reducible refine halt_op none (.store _ _ _) (fun K hK => ?_))
  refine go_on hK ?_; clear hK
  refine store_own1 intSz rfl (.tmp 51) (.tmp 50) rfl (unhid O6) hme rfl (v := .int .i64 a3) rfl (.inl ⟨.i64, a3, rfl⟩) ?_
  intro w7 o7 g7
  rw [ints_set] at o7
  have hw6 := (unhid E6).size
  have E7 := hid ((unhid E6).grown g7 hw6 (fun q hq => by have e9 : g = q := Option.some.inj hq; omega))
  have SO := hid (sold_any (l0.set me a3) a1 (some ⟨g, 0, none⟩) n0 c6 w7.heap.size w7 (Row.of_own o7) (wf_set F0.out F3.out) (Nat.le_refl _) (by have := T3.out; omega) ((unhid HL).below (unhid E7) h0) (Nat.lt_of_lt_of_le h0 (unhid E7).size))
  clear o7 g7 O6 E6
  go_wp2_with fail
  refine (unhid SO).mono ?_
  rintro e w8 ⟨hs1, hb8⟩
  have E8 := hid ((unhid E7).trans (hb8.mono (unhid E7).size))
  have hw8 := (unhid E8).size
  clear hb8 SO E7
  rcases hs1 with ⟨hbad, rfl⟩ | ⟨hnb, x, p, haw, rfl⟩
  · have HBAD := hid hbad
    clear hbad
    by_cases hz : (0 : Int) = (me : Int)
    case' pos => have t0 : ((0 : Int) == (me : Int)) = true := by simp; omega
    case' neg => have t0 : ((0 : Int) == (me : Int)) = false := by simp; omega
    all_goals
      have HZ := hid hz
      clear hz
      go_wp2_with (at_builtin; refine halt_at (fun K hK => ?_))
      refine go_on hK ?_; clear hK
      refine app_new intE rfl (.tmp 65) (.tmp 66) rfl rfl (Own.lit_at _ _ 3 1 0 _ _ [] rfl (Nat.le_refl _) (by decide) rfl rfl) rfl (((unhid R0).below (unhid E8)).alloc hw8 _) (ints_one .i64 _) (by have := T3.out; simp [maxLen]; omega) (by have := T3.out; omega) (by simp) ?_
      intro A9 c9 w9 o9 g9 l9
      have b9 := Below.grown ((Below.refl w8.heap.size w8).alloc (Nat.le_refl _) _) g9 (by simp) (fun q hq => by have e9 : w8.heap.size = q := Option.some.inj hq; omega)
      obtain ⟨g', _, rfl, hBg', -⟩ := o9.blk (by omega)
      have O9 := hid o9; have E9 := hid ((unhid E8).trans (b9.mono hw8))
      clear o9 b9 g9 l9
      go_wp2_with (with_reducible refine halt_op none (.store _ _ _) (fun K hK => ?_))
      refine go_on hK ?_; clear hK
      refine store_own1 intSz rfl (.tmp 71) (.tmp 70) rfl (unhid O9) hme rfl (v := .int .i64 a4) rfl (.inl ⟨.i64, a4, rfl⟩) ?_
      intro w10 o10 g10
      rw [ints_set] at o10
      have hw9 := (unhid E9).size
      have E10 := hid ((unhid E9).grown g10 hw9 (fun q hq => by have e9 : g' = q := Option.some.inj hq; omega))
      have SO := hid (sold_any (l0.set me a4) a1 (some ⟨g', 0, none⟩) n0 c9 w10.heap.size w10 (Row.of_own o10) (wf_set F0.out F4.out) (Nat.le_refl _) (by have := T3.out; omega) ((unhid HL).below (unhid E10) h0) (Nat.lt_of_lt_of_le h0 (unhid E10).size))
      clear o10 g10 O9 E9
      go_wp2_with fail
      refine (unhid SO).mono ?_
      rintro e w11 ⟨hs2, hb11⟩
      have E11 := hid ((unhid E10).trans (hb11.mono (unhid E10).size))
      clear hb11 SO E10
      rcases hs2 with ⟨_, rfl⟩ | ⟨hnb, _⟩
      · go_wp2_with fail
        go_ret
        exact ⟨by simp, unhid E11⟩
      · exact absurd ((bad_set (by rw [HLL.out]; exact hme) T5.out).2 ((bad_set (by rw [HLL.out]; exact hme) T4.out).1 HBAD.out)) hnb
  · have HAW := hid haw; have HNB := hid hnb
    have hleast : 0 ≤ a1 := by
      have h : ¬ a1 < 0 := fun h => hnb (.inr h)
      omega
    have V1 := hid (vickrey (by rw [HLL.out]; exact hme) haw haw).1
    clear haw hnb
    have a3b := bounds_i64 F3.out
    by_cases hx : x = (me : Int)
    · skip
      have t0 : ((x : Int) == (me : Int)) = true := by simp; exact hx
      have hp := V1.out hx
      have wr1 : IntKind.i64.wrap (a3 - p) = a3 - p := by simp [IntKind.wrap, IntKind.bits, IntKind.signed]; omega
      have HPP := hid hp
      clear hp
      have HX := hid hx
      clear hx
      go_wp2_with (at_builtin; refine halt_at (fun K hK => ?_))
      refine go_on hK ?_; clear hK
      refine app_new intE rfl (.tmp 65) (.tmp 66) rfl rfl (Own.lit_at _ _ 3 1 0 _ _ [] rfl (Nat.le_refl _) (by decide) rfl rfl) rfl (((unhid R0).below (unhid E8)).alloc hw8 _) (ints_one .i64 _) (by have := T3.out; simp [maxLen]; omega) (by have := T3.out; omega) (by simp) ?_
      intro A9 c9 w9 o9 g9 l9
      have b9 := Below.grown ((Below.refl w8.heap.size w8).alloc (Nat.le_refl _) _) g9 (by simp) (fun q hq => by have e9 : w8.heap.size = q := Option.some.inj hq; omega)
      obtain ⟨g', _, rfl, hBg', -⟩ := o9.blk (by omega)
      have O9 := hid o9; have E9 := hid ((unhid E8).trans (b9.mono hw8))
      clear o9 b9 g9 l9
      go_wp2_with (with_reducible refine halt_op none (.store _ _ _) (fun K hK => ?_))
      refine go_on hK ?_; clear hK
      refine store_own1 intSz rfl (.tmp 71) (.tmp 70) rfl (unhid O9) hme rfl (v := .int .i64 a4) rfl (.inl ⟨.i64, a4, rfl⟩) ?_
      intro w10 o10 g10
      rw [ints_set] at o10
      have hw9 := (unhid E9).size
      have E10 := hid ((unhid E9).grown g10 hw9 (fun q hq => by have e9 : g' = q := Option.some.inj hq; omega))
      have SO := hid (sold_any (l0.set me a4) a1 (some ⟨g', 0, none⟩) n0 c9 w10.heap.size w10 (Row.of_own o10) (wf_set F0.out F4.out) (Nat.le_refl _) (by have := T3.out; omega) ((unhid HL).below (unhid E10) h0) (Nat.lt_of_lt_of_le h0 (unhid E10).size))
      clear o10 g10 O9 E9
      go_wp2_with fail
      refine (unhid SO).mono ?_
      rintro e w11 ⟨hs2, hb11⟩
      have E11 := hid ((unhid E10).trans (hb11.mono (unhid E10).size))
      clear hb11 SO E10
      rcases hs2 with ⟨hbad, _⟩ | ⟨hnb2, y, q, haw2, rfl⟩
      · exact absurd ((bad_set (by rw [HLL.out]; exact hme) T4.out).2 ((bad_set (by rw [HLL.out]; exact hme) T5.out).1 hbad)) HNB.out
      have VV := hid (vickrey (by rw [HLL.out]; exact hme) HAW.out haw2)
      clear haw2 hnb2
      by_cases hy : y = (me : Int)
      · skip
        have t1 : ((y : Int) == (me : Int)) = true := by simp; exact hy
        have hq := VV.out.2.1 hy
        have hqb : -9223372036854775808 ≤ q ∧ q ≤ 9223372036854775807 := by
          rcases hq.2 with h | ⟨a, ha, h⟩
          · have := bounds_i64 F1.out; omega
          · have := bounds_i64 (F0.out a ha); omega
        have wr2 : IntKind.i64.wrap (a3 - q) = a3 - q := by simp [IntKind.wrap, IntKind.bits, IntKind.signed]; omega
        have k1 : (0 : Int) ≤ a3 - p := by have := HPP.out; omega
        have k2 : a3 - q ≤ a3 - p := by have := VV.out.2.2.1 HX.out hy; omega
        clear hy hq hqb
        go_wp2_with fail
        go_ret
        exact ⟨rfl, unhid E11⟩
      · skip
        have t1 : ((y : Int) == (me : Int)) = false := by simp; exact hy
        have k1 : (0 : Int) ≤ a3 - p := by have := HPP.out; omega
        clear hy
        go_wp2_with fail
        go_ret
        exact ⟨rfl, unhid E11⟩
    · skip
      have t0 : ((x : Int) == (me : Int)) = false := by simp; exact hx
      have HX := hid hx
      clear hx
      go_wp2_with (at_builtin; refine halt_at (fun K hK => ?_))
      refine go_on hK ?_; clear hK
      refine app_new intE rfl (.tmp 65) (.tmp 66) rfl rfl (Own.lit_at _ _ 3 1 0 _ _ [] rfl (Nat.le_refl _) (by decide) rfl rfl) rfl (((unhid R0).below (unhid E8)).alloc hw8 _) (ints_one .i64 _) (by have := T3.out; simp [maxLen]; omega) (by have := T3.out; omega) (by simp) ?_
      intro A9 c9 w9 o9 g9 l9
      have b9 := Below.grown ((Below.refl w8.heap.size w8).alloc (Nat.le_refl _) _) g9 (by simp) (fun q hq => by have e9 : w8.heap.size = q := Option.some.inj hq; omega)
      obtain ⟨g', _, rfl, hBg', -⟩ := o9.blk (by omega)
      have O9 := hid o9; have E9 := hid ((unhid E8).trans (b9.mono hw8))
      clear o9 b9 g9 l9
      go_wp2_with (with_reducible refine halt_op none (.store _ _ _) (fun K hK => ?_))
      refine go_on hK ?_; clear hK
      refine store_own1 intSz rfl (.tmp 71) (.tmp 70) rfl (unhid O9) hme rfl (v := .int .i64 a4) rfl (.inl ⟨.i64, a4, rfl⟩) ?_
      intro w10 o10 g10
      rw [ints_set] at o10
      have hw9 := (unhid E9).size
      have E10 := hid ((unhid E9).grown g10 hw9 (fun q hq => by have e9 : g' = q := Option.some.inj hq; omega))
      have SO := hid (sold_any (l0.set me a4) a1 (some ⟨g', 0, none⟩) n0 c9 w10.heap.size w10 (Row.of_own o10) (wf_set F0.out F4.out) (Nat.le_refl _) (by have := T3.out; omega) ((unhid HL).below (unhid E10) h0) (Nat.lt_of_lt_of_le h0 (unhid E10).size))
      clear o10 g10 O9 E9
      go_wp2_with fail
      refine (unhid SO).mono ?_
      rintro e w11 ⟨hs2, hb11⟩
      have E11 := hid ((unhid E10).trans (hb11.mono (unhid E10).size))
      clear hb11 SO E10
      rcases hs2 with ⟨hbad, _⟩ | ⟨hnb2, y, q, haw2, rfl⟩
      · exact absurd ((bad_set (by rw [HLL.out]; exact hme) T4.out).2 ((bad_set (by rw [HLL.out]; exact hme) T5.out).1 hbad)) HNB.out
      have VV := hid (vickrey (by rw [HLL.out]; exact hme) HAW.out haw2)
      clear haw2 hnb2
      by_cases hy : y = (me : Int)
      · skip
        have t1 : ((y : Int) == (me : Int)) = true := by simp; exact hy
        have hq := VV.out.2.1 hy
        have hqb : -9223372036854775808 ≤ q ∧ q ≤ 9223372036854775807 := by
          rcases hq.2 with h | ⟨a, ha, h⟩
          · have := bounds_i64 F1.out; omega
          · have := bounds_i64 (F0.out a ha); omega
        have wr2 : IntKind.i64.wrap (a3 - q) = a3 - q := by simp [IntKind.wrap, IntKind.bits, IntKind.signed]; omega
        have k2 : a3 - q ≤ 0 := by have := VV.out.2.2.2 HX.out hy; omega
        clear hy hq hqb
        go_wp2_with fail
        go_ret
        exact ⟨rfl, unhid E11⟩
      · skip
        have t1 : ((y : Int) == (me : Int)) = false := by simp; exact hy
        clear hy
        go_wp2_with fail
        go_ret
        exact ⟨rfl, unhid E11⟩
end Go.Proofs.YtlaoijnlemgdfaaDoor

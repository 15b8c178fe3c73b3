/- The walk of the law BidPaid. -/
import Derived.Test.YtlaoijnlemgdfaaDoorBidTruthW
namespace Go.Proofs.YtlaoijnlemgdfaaDoor
set_option linter.unusedVariables false
open Go.RowKit Go.Mny
/-- m is the most of the first i, or -1 -/
def Most (l : List Int) (i : Nat) (m : Int) : Prop := -1 ≤ m ∧ (∀ j a, j < i → l[j]? = some a → a ≤ m) ∧ (m = -1 ∨ ∃ j, j < i ∧ l[j]? = some m)
theorem Most.start (l : List Int) : Most l 0 (-1) := ⟨Int.le_refl _, fun j a h => absurd h (Nat.not_lt_zero _), .inl rfl⟩
theorem Most.step {l : List Int} {i : Nat} {m a : Int} (h : Most l i m) (ha : l[i]? = some a) : Most l (i + 1) (max m a) := by
  obtain ⟨h1, h2, h3⟩ := h
  refine ⟨by omega, fun j b hj hb => ?_, ?_⟩
  · by_cases e : j = i
    · rw [e, ha] at hb; injection hb with hb; omega
    · have := h2 j b (by omega) hb; omega
  · by_cases e : a ≤ m
    · rw [Int.max_eq_left e]
      rcases h3 with h3 | ⟨j, hj, h3⟩
      · exact .inl h3
      · exact .inr ⟨j, by omega, h3⟩
    · rw [Int.max_eq_right (by omega)]
      exact .inr ⟨i, by omega, ha⟩
/-- WHAT IS PAID: nobody -/
theorem paid_none {l : List Int} {least w p m : Int} (h : Aw (Ml l) least w p) (hm : Most l l.length m) (hlt : m < least) : w = -1 ∧ p = 0 := by
  rcases h with ⟨_, h1, h2⟩ | ⟨a, ⟨i, hi, _⟩, h2, _⟩
  · exact ⟨h1, h2⟩
  · have := hm.2.1 i a (List.getElem?_eq_some_iff.1 hi).1 hi; omega
theorem paid_some {l : List Int} {least w p m : Int} (h : Aw (Ml l) least w p) (hm : Most l l.length m) (hge : least ≤ m) (h0 : 0 ≤ least) :
    ∃ i : Nat, w = (i : Int) ∧ l[i]? = some m ∧ least ≤ p ∧ p ≤ m ∧ (∀ j c, l[j]? = some c → j ≠ i → c ≤ p ∧ (c = m → i < j)) ∧
      ∀ higher, m ≤ higher → Aw (Ml (l.set i higher)) least w p := by
  obtain ⟨m1, m2, m3⟩ := hm
  rcases h with ⟨h1, _⟩ | ⟨a, ⟨i, hi, hw⟩, h2, h3, h4, h5, h6⟩
  · exfalso
    rcases m3 with h | ⟨j, hj, h⟩
    · omega
    · have := h1 j m ⟨j, h, rfl⟩; omega
  · have hil := (List.getElem?_eq_some_iff.1 hi).1
    have ham : a = m := by
      have e1 := m2 i a hil hi
      rcases m3 with h | ⟨j, hj, h⟩
      · omega
      · by_cases e : j = i
        · rw [e, hi] at h; injection h with h
        · have := h3 j m ⟨j, h, rfl⟩ (by omega); omega
    subst ham
    have hpa : p ≤ a := by
      rcases h6 with h | ⟨u, c, hc, hu, h⟩
      · omega
      · have := h3 u c hc hu; omega
    refine ⟨i, hw, hi, h4, hpa, fun j c hj hne => ⟨h5 j c ⟨j, hj, rfl⟩ (by omega), fun hc => ?_⟩, fun higher hh => ?_⟩
    · have := h3 j c ⟨j, hj, rfl⟩ (by omega); omega
    · have ms := Ml_set (v := higher) hil
      refine .inr ⟨higher, (ms _ _).2 (.inl ⟨hw, rfl⟩), by omega, fun u c hc hu => ?_, h4, fun u c hc hu => ?_, ?_⟩
      · rcases (ms u c).1 hc with ⟨h, _⟩ | ⟨_, h⟩
        · exact absurd (h.trans hw.symm) hu
        · have := h3 u c h hu; omega
      · rcases (ms u c).1 hc with ⟨h, _⟩ | ⟨_, h⟩
        · exact absurd (h.trans hw.symm) hu
        · exact h5 u c h hu
      · rcases h6 with h | ⟨u, c, hc, hu, h⟩
        · exact .inl h
        · exact .inr ⟨u, c, (ms u c).2 (.inr ⟨fun e => hu (e.trans hw.symm), hc⟩), hu, h⟩
set_option maxHeartbeats 4000000 in
set_option maxRecDepth 100000 in
theorem bidPaid_walk (A0 : Option Addr) (n0 c0 : Nat) (l0 : List Int) (a1 : Int) (a2 : Int) (w : World) (b0 : n0 ≤ c0) (g0 : c0 ≤ maxLen) (r0 : Row w w.heap.size 1 A0 n0 (l0.map (Value.int .i64))) (f0 : ∀ z ∈ l0, (Lit.int .i64 z).wf = true) (f1 : (Lit.int .i64 a1).wf = true) (f2 : (Lit.int .i64 a2).wf = true) (hL : Laid w) (h0 : 1 < w.heap.size) :
    Calls Tryd.prog 8 #[.slice A0 n0 c0, .int .i64 a1, .int .i64 a2] w fun e w' => e = .returned (.bool true) ∧ Below w.heap.size w w' := by
  have hll : l0.length = n0 := by have := r0.len; rw [List.length_map] at this; omega
  have R0 := hid r0; have F0 := hid f0; have F1 := hid f1; have F2 := hid f2; have HL := hid hL; have HLL := hid hll
  clear r0 f0 f1 f2 hL hll b0 g0
  go_enter Tryd.func8, Tryd.ntmps8
  go_wp2_with fail
  refine (fact_any _ (unhid HL) h0).mono ?_
  rintro e w1 ⟨rfl, hb1⟩
  have E1 := hid hb1
  clear hb1
  by_cases t3 : (40 : Int) < (n0 : Int)
  · go_wp2_with fail
    go_ret
    exact ⟨rfl, unhid E1⟩
  have T3 := hid (show n0 ≤ 40 by omega)
  have hw1 := (unhid E1).size
  have SO := hid (sold_any l0 a1 A0 n0 c0 w.heap.size w1 ((unhid R0).below (unhid E1)) F0.out hw1 (by have := T3.out; omega) ((unhid HL).below (unhid E1) h0) (Nat.lt_of_lt_of_le h0 hw1))
  go_wp2_with fail
  clear t3
  refine (unhid SO).mono ?_
  rintro e w2 ⟨hs1, hb2⟩
  have E2 := hid ((unhid E1).trans (hb2.mono hw1))
  have hw2 := (unhid E2).size
  clear hb2 SO
  rcases hs1 with ⟨hbad, rfl⟩ | ⟨hnb, x, p, haw, rfl⟩
  · clear hbad
    go_wp2_with fail
    go_ret
    exact ⟨rfl, unhid E2⟩
  have hleast : 0 ≤ a1 := by
    have h : ¬ a1 < 0 := fun h => hnb (.inr h)
    omega
  have HAW := hid haw; have HNB := hid hnb; have HLE := hid hleast
  clear haw hnb hleast
  go_wp2_with fail
  go_loop [11, 12] (fun v11 v12 => ∃ (i : Nat) (m : Int), i ≤ n0 ∧ v12 = .int .i64 i ∧ v11 = .int .i64 m ∧ Hid (Most l0 i m)) (fun _ v12 => n0 - (intOf v12).toNat)
  case atStart => exact ⟨0, -1, Nat.zero_le _, rfl, rfl, hid (Most.start l0)⟩
  case round =>
    obtain ⟨i, m, hi, rfl, rfl, HM⟩ := hrel
    by_cases hin : i < n0
    · obtain ⟨g, o, a, rfl, hg, ha, hca⟩ := row_int ((unhid R0).below (unhid E2)) hin
      have HM2 := hid (HM.out.step ha)
      have i1 : (0 : Int) ≤ (i : Int) := by omega
      have i2 : (i : Int) < (n0 : Int) := by omega
      clear ha
      go_wp2_with fail
      go_round
      case rel => exact ⟨i + 1, max m a, by omega, by go_num, rfl, HM2⟩
      case measure => simp [intOf]; omega
    · have hin2 : i = n0 := by omega
      have i2 : ¬ (i : Int) < (n0 : Int) := by omega
      have hm := HM.out
      rw [hin2, ← HLL.out] at hm
      have HM2 := hid hm
      clear hin2 hm HM
      by_cases hlt : m < a1
      · obtain ⟨e1, e2⟩ := paid_none HAW.out HM2.out hlt
        subst e1 e2
        go_wp2_with fail
        go_ret
        exact ⟨rfl, unhid E2⟩
      obtain ⟨k, hk, hkm, hp1, hp2, hoth, hset⟩ := paid_some HAW.out HM2.out (by omega) HLE.out
      subst hk
      have hkn : k < n0 := by have := (List.getElem?_eq_some_iff.1 hkm).1; rw [HLL.out] at this; exact this
      obtain ⟨g, o, z, rfl, hg, hz, hcz⟩ := row_int ((unhid R0).below (unhid E2)) hkn
      have hzm : z = m := by rw [hkm] at hz; exact (Option.some.inj hz).symm
      rw [hzm] at hcz
      have HO := hid hoth; have HS := hid hset; have HKM := hid hkm
      have q0 : ¬ (k : Int) < 0 := by omega
      have q1 : ¬ (n0 : Int) ≤ (k : Int) := by omega
      have q2 : (0 : Int) ≤ (k : Int) := by omega
      have q3 : (k : Int) < (n0 : Int) := by omega
      have q4 : ((m : Int) != m) = false := by simp
      have q5 : ¬ p < a1 := by omega
      have q6 : ¬ m < p := by omega
      clear hoth hset hkm hz hzm
      go_wp2_with fail
      clear hcz
      go_loop [13] (fun v13 => ∃ j : Nat, j ≤ n0 ∧ v13 = .int .i64 j) (fun v13 => n0 - (intOf v13).toNat)
      case atStart => exact ⟨0, Nat.zero_le _, rfl⟩
      case round =>
        obtain ⟨j, hj, rfl⟩ := hrel
        by_cases hjn : j < n0
        · obtain ⟨g', o', c, ea, hg', hc, hcc⟩ := row_int ((unhid R0).below (unhid E2)) hjn
          injection ea with ea
          injection ea with ea1 ea2
          subst ea1 ea2
          have j1 : (0 : Int) ≤ (j : Int) := by omega
          have j2 : (j : Int) < (n0 : Int) := by omega
          by_cases hjk : j = k
          · have t1 : ((j : Int) != (k : Int)) = false := by simp; omega
            clear hjk hc
            go_wp2_with fail
            go_round
            case rel => exact ⟨j + 1, by omega, by go_num⟩
            case measure => simp [intOf]; omega
          · have t1 : ((j : Int) != (k : Int)) = true := by simp; omega
            obtain ⟨o1, o2⟩ := HO.out j c hc hjk
            have t2 : ¬ p < c := by omega
            by_cases hcm : c = m
            · have t3 : ((c : Int) == m) = true := by simp; exact hcm
              have t4 : ¬ (j : Int) < (k : Int) := by have := o2 hcm; omega
              clear hcm hc hjk o2 o1
              go_wp2_with fail
              go_round
              case rel => exact ⟨j + 1, by omega, by go_num⟩
              case measure => simp [intOf]; omega
            · have t3 : ((c : Int) == m) = false := by simp; exact hcm
              clear hcm hc hjk o2 o1
              go_wp2_with fail
              go_round
              case rel => exact ⟨j + 1, by omega, by go_num⟩
              case measure => simp [intOf]; omega
        · have j2 : ¬ (j : Int) < (n0 : Int) := by omega
          by_cases hh : a2 < m
          · go_wp2_with fail
            go_ret
            exact ⟨rfl, unhid E2⟩
          have hAW2 := HS.out a2 (by omega)
          have hnb2 : ¬ bad (l0.set k a2) a1 := by
            rw [bad_set (by rw [HLL.out]; exact hkn) (by have := HLE.out; omega)]
            rintro (⟨j, a, _, hj, h⟩ | h)
            · exact HNB.out (.inl ⟨a, List.mem_of_getElem? hj, h⟩)
            · exact HNB.out (.inr h)
          have HA2 := hid hAW2; have HN2 := hid hnb2
          clear hAW2 hnb2
          go_wp2_with (at_builtin; refine halt_at (fun K hK => ?_))
          refine go_on hK ?_; clear hK
          refine app_new intE rfl (.tmp 113) (.tmp 114) rfl rfl (Own.lit_at _ _ 3 1 0 _ _ [] rfl (Nat.le_refl _) (by decide) rfl rfl) rfl (((unhid R0).below (unhid E2)).alloc hw2 _) (ints_one .i64 _) (by have := T3.out; simp [maxLen]; omega) (by have := T3.out; omega) (by simp) ?_
          intro A6 c6 w6 o6 g6 l6
          have b6 := Below.grown ((Below.refl w2.heap.size w2).alloc (Nat.le_refl _) _) g6 (by simp) (fun q hq => by have e9 : w2.heap.size = q := Option.some.inj hq; omega)
          obtain ⟨g2, _, rfl, hBg, -⟩ := o6.blk (by omega)
          have O6 := hid o6; have E6 := hid ((unhid E2).trans (b6.mono hw2))
          clear o6 b6 g6 l6
          go_wp2_with (with_reducible refine halt_op none (.store _ _ _) (fun K hK => ?_))
          refine go_on hK ?_; clear hK
          refine store_own1 intSz rfl (.tmp 119) (.tmp 118) rfl (unhid O6) hkn rfl (v := .int .i64 a2) rfl (.inl ⟨.i64, a2, rfl⟩) ?_
          intro w7 o7 g7
          rw [ints_set] at o7
          have hw6 := (unhid E6).size
          have E7 := hid ((unhid E6).grown g7 hw6 (fun q hq => by have e9 : g2 = q := Option.some.inj hq; omega))
          have SO := hid (sold_any (l0.set k a2) a1 (some ⟨g2, 0, none⟩) n0 c6 w7.heap.size w7 (Row.of_own o7) (wf_set F0.out F2.out) (Nat.le_refl _) (by have := T3.out; omega) ((unhid HL).below (unhid E7) h0) (Nat.lt_of_lt_of_le h0 (unhid E7).size))
          clear o7 g7 O6 E6
          go_wp2_with fail
          refine (unhid SO).mono ?_
          rintro e w8 ⟨hs2, hb8⟩
          have E8 := hid ((unhid E7).trans (hb8.mono (unhid E7).size))
          clear hb8 SO E7
          rcases hs2 with ⟨hbad, _⟩ | ⟨_, y, q, haw2, rfl⟩
          · exact absurd hbad HN2.out
          obtain ⟨rfl, rfl⟩ := haw2.unique Ml.fun HA2.out
          clear haw2
          go_wp2_with fail
          go_ret
          exact ⟨by simp, unhid E8⟩
end Go.Proofs.YtlaoijnlemgdfaaDoor

/- Shares that come in; the walk of the reference's SharesFault. -/
import Derived.Test.YtilaipdpbcfhkaaDoorMatA
import Derived.Test.YtilaipdpbcfhkaaDoorProg
namespace Go.Proofs.YtilaipdpbcfhkaaDoor
set_option linter.unusedVariables false
open Go.RowKit Go.Mny
def shareSh : Sh := .st 2 (fun i => i) (fun _ => 1) (fun i => if i = 0 then .int .u8 else .slice 1 (.int .u8))
theorem shareSh_is : shareSh.is Tryd.prog 49 := by
  refine ⟨_, Tryd.underlying49, by kernel_rfl, fun i hi => ?_⟩
  match i, hi with
  | 0, _ => exact ⟨_, rfl, by kernel_rfl, by kernel_rfl, Tryd.underlying5⟩
  | 1, _ => exact ⟨_, rfl, by kernel_rfl, by kernel_rfl, by decide, _, Tryd.underlying33, by kernel_rfl, Tryd.underlying5⟩
theorem sumTo_has (f : Nat → Nat) : ∀ n i, i < n → f i ≤ sumTo f n
  | 0, _, h => by omega
  | n + 1, i, h => by
    by_cases e : i = n
    · subst e; simp only [sumTo]; omega
    · have := sumTo_has f n i (by omega); simp only [sumTo]; omega
theorem Sh.shares {w : World} {D m : Nat} {v : Value} (h : (Sh.slice 2 shareSh).ok w D m [v]) :
    ∃ (A : Option Addr) (n c : Nat) (L : List (Nat × List Nat)), v = .slice A n c ∧ n ≤ c ∧ ShR w D A n L ∧ (∀ p ∈ L, p.1 < 256 ∧ By8s p.2 ∧ p.2.length ≤ m ∧ p.2.length ≤ 9223372036854775807) ∧ n + 1 ≤ m := by
  obtain ⟨A, n, c, es, f, hv, h1, h2, h3, h4, h5⟩ := h
  have key : ∀ q, q ≤ n → ∃ L : List (Nat × List Nat), L.length = q ∧ (∀ (i x : Nat) (d : List Nat), L[i]? = some (x, d) →
      (∃ (A' : Option Addr) (c' : Nat), es[i * 2]? = some (Value.int .u8 (x : Int)) ∧ es[i * 2 + 1]? = some (Value.slice A' d.length c') ∧ d.length ≤ c' ∧ Row w D 1 A' d.length (byt d)) ∧ x < 256 ∧ By8s d ∧ d.length ≤ m ∧ d.length ≤ 9223372036854775807) := by
    intro q
    induction q with
    | zero => intro _; exact ⟨[], rfl, fun i x d hl => by simp at hl⟩
    | succ q ih =>
      intro hq
      obtain ⟨L, e1, e2⟩ := ih (by omega)
      obtain ⟨g, g1, g2⟩ := h5 q (by omega)
      have hl := h3.len
      have p0 := g2 0 (by decide)
      have p1 := g2 1 (by decide)
      have hfq := sumTo_has f n q (by omega)
      have hg1 := sumTo_has g 2 1 (by decide)
      have c0 : (((es.drop (q * 2)).take 2).drop 0).take 1 = [es[q * 2]'(by omega)] := by
        rw [List.drop_zero, List.take_take, List.drop_eq_getElem_cons (show q * 2 < es.length by omega)]; rfl
      have c1 : (((es.drop (q * 2)).take 2).drop 1).take 1 = [es[q * 2 + 1]'(by omega)] := by
        rw [List.drop_eq_getElem_cons (show q * 2 < es.length by omega), List.drop_eq_getElem_cons (show q * 2 + 1 < es.length by omega)]; rfl
      have p0' : Sh.ok w D (.int .u8) (g 0) [es[q * 2]'(by omega)] := by rw [← c0]; exact p0
      have p1' : Sh.ok w D (.slice 1 (.int .u8)) (g 1) [es[q * 2 + 1]'(by omega)] := by rw [← c1]; exact p1
      obtain ⟨_, z, hz, hzw⟩ := p0'
      obtain ⟨A', n', c', l, hv', k1, k2, k3, k4, k5⟩ := Sh.ints p1'
      obtain ⟨y1, y2⟩ := nats_byt k4
      have hll : l.length = n' := k3.length
      have vz := bounds_u8 hzw
      obtain ⟨x, rfl⟩ := Int.eq_ofNat_of_zero_le vz.1
      refine ⟨L ++ [(x, l.map Int.toNat)], by simp [e1], fun i x' d' hix => ?_⟩
      by_cases hi : i < q
      · rw [List.getElem?_append_left (by omega)] at hix; exact e2 i x' d' hix
      · have : i = q := by have := (List.getElem?_eq_some_iff.1 hix).1; simp [e1] at this; omega
        subst this
        rw [List.getElem?_append_right (by omega), e1, Nat.sub_self] at hix
        simp only [List.getElem?_cons_zero, Option.some.injEq, Prod.mk.injEq] at hix
        obtain ⟨rfl, rfl⟩ := hix
        injection hz with hz
        refine ⟨⟨A', c', ?_, ?_, ?_, ?_⟩, by omega, y2, ?_, ?_⟩
        · rw [List.getElem?_eq_getElem (show i * 2 < es.length by omega), hz]
        · rw [List.getElem?_eq_getElem (show i * 2 + 1 < es.length by omega), hv', List.length_map, hll]
        · rw [List.length_map, hll]; exact k1
        · rw [List.length_map, hll, ← y1]; exact k3
        · rw [List.length_map, hll]; omega
        · rw [List.length_map, hll]; unfold maxLen at k2; omega
  obtain ⟨L, e1, e2⟩ := key n (Nat.le_refl _)
  have hfn := sumTo_ones (f := f) n (fun i hi => by obtain ⟨g, g1, _⟩ := h5 i hi; omega)
  refine ⟨A, n, c, L, by simpa using hv, h1, ⟨es, h3, e1, fun i x d hi => (e2 i x d hi).1⟩, fun p hp => ?_, by omega⟩
  obtain ⟨i, hi, rfl⟩ := List.getElem_of_mem hp
  exact (e2 i _ _ (List.getElem?_eq_getElem hi)).2
/-- the first fault of shares -/
def fAt (L : List (Nat × List Nat)) (lo hi i : Nat) : Int :=
  if (L.getD i (0, [])).1 < lo ∨ hi < (L.getD i (0, [])).1 then 2 else if (L.getD i (0, [])).1 ∈ (L.map (·.1)).take i then 6 else if (L.getD i (0, [])).2.length = (L.getD 0 (0, [])).2.length then 0 else 3
def fTo (L : List (Nat × List Nat)) (lo hi : Nat) : Nat → Int
  | 0 => 0
  | i + 1 => if fTo L lo hi i = 0 then fAt L lo hi i else fTo L lo hi i
def faultN (L : List (Nat × List Nat)) (lo hi : Nat) : Int := fTo L lo hi L.length
theorem fTo_past {L : List (Nat × List Nat)} {lo hi i : Nat} {r : Int} (h0 : fTo L lo hi i = 0) (h1 : fAt L lo hi i = r) (h2 : r ≠ 0) : ∀ k, i < k → fTo L lo hi k = r
  | 0, h => by omega
  | k + 1, h => by
    by_cases e : k = i
    · subst e; rw [fTo, if_pos h0, h1]
    · rw [fTo, fTo_past h0 h1 h2 k (by omega), if_neg h2]
theorem fTo_all {L : List (Nat × List Nat)} {lo hi : Nat} : ∀ {k : Nat}, fTo L lo hi k = 0 → ∀ i, i < k → fAt L lo hi i = 0
  | 0, _, i, h => by omega
  | k + 1, h, i, hik => by
    rw [fTo] at h
    by_cases e : fTo L lo hi k = 0
    · rw [if_pos e] at h
      by_cases hk : i = k
      · subst hk; exact h
      · exact fTo_all e i (by omega)
    · rw [if_neg e] at h; exact absurd h e
/-- shares without a fault -/
theorem fault_none {L : List (Nat × List Nat)} {lo hi : Nat} (h : faultN L lo hi = 0) : (∀ p ∈ L, lo ≤ p.1 ∧ p.1 ≤ hi ∧ p.2.length = (L.getD 0 (0, [])).2.length) ∧ (L.map (·.1)).Nodup := by
  have ha := fTo_all h
  have hg : ∀ i (h' : i < L.length), L.getD i (0, []) = L[i] := fun i h' => by rw [List.getD_eq_getElem?_getD, List.getElem?_eq_getElem h']; rfl
  refine ⟨fun p hp => ?_, ?_⟩
  · obtain ⟨i, h', rfl⟩ := List.getElem_of_mem hp
    have := ha i h'
    unfold fAt at this
    rw [hg i h'] at this
    by_cases h1 : L[i].1 < lo ∨ hi < L[i].1
    · rw [if_pos h1] at this; cases this
    · rw [if_neg h1] at this
      by_cases h2 : L[i].1 ∈ (L.map (·.1)).take i
      · rw [if_pos h2] at this; cases this
      · rw [if_neg h2] at this
        by_cases h3 : L[i].2.length = (L.getD 0 (0, [])).2.length
        · exact ⟨by omega, by omega, h3⟩
        · rw [if_neg h3] at this; cases this
  · rw [List.nodup_iff_pairwise_ne, List.pairwise_iff_getElem]
    intro i j h' hj hij
    rw [List.length_map] at h' hj
    have := ha j hj
    unfold fAt at this
    rw [hg j hj] at this
    by_cases h1 : L[j].1 < lo ∨ hi < L[j].1
    · rw [if_pos h1] at this; cases this
    · rw [if_neg h1] at this
      by_cases h2 : L[j].1 ∈ (L.map (·.1)).take j
      · rw [if_pos h2] at this; cases this
      · intro e
        refine h2 ?_
        rw [List.getElem_map, List.getElem_map] at e
        rw [← e]
        refine List.mem_of_getElem? (i := i) ?_
        rw [List.getElem?_take, if_pos hij, List.getElem?_map, List.getElem?_eq_getElem h']; rfl
set_option maxHeartbeats 2000000 in
set_option maxRecDepth 100000 in
theorem sfault_any (L : List (Nat × List Nat)) (lo hi : Nat) (A : Option Addr) (n c D : Nat) (w : World) (hA : ShR w D A n L) (hD : D ≤ w.heap.size) (hn : n ≤ 9223372036854775807) (h8 : ∀ p ∈ L, p.1 < 256 ∧ By8s p.2 ∧ p.2.length ≤ 9223372036854775807) :
    Calls Tryd.prog 20 #[.slice A n c, .int .i64 (lo : Int), .int .i64 (hi : Int)] w fun e w' => e = .returned (.int .i64 (faultN L lo hi)) ∧ Below w.heap.size w w' := by
  have hl : L.length = n := by obtain ⟨_, _, h, _⟩ := hA; exact h
  have HA := hid hA; have HL := hid hl; have H8 := hid h8
  clear hA hl h8
  go_enter Tryd.func20, Tryd.ntmps20
  go_wp2_with fail
  go_loopw [7] (fun v7 wr => ∃ i : Nat, i ≤ n ∧ v7 = .int .i64 i ∧ Hid (fTo L lo hi i = 0) ∧ Hid (Below w.heap.size w wr)) (fun v7 _ => n - (intOf v7).toNat)
  case atStart => exact ⟨0, Nat.zero_le _, rfl, hid rfl, Below.refl _ _⟩
  case round =>
    obtain ⟨i, hi', rfl, HF, HB⟩ := hrel
    by_cases hin : i < n
    · obtain ⟨p, hp⟩ : ∃ p, L[i]? = some p := ⟨_, List.getElem?_eq_getElem (by rw [HL.out]; exact hin)⟩
      obtain ⟨x, d⟩ := p
      have hg : L.getD i (0, []) = (x, d) := by rw [List.getD_eq_getElem?_getD, hp]; rfl
      obtain ⟨p0, hp0⟩ : ∃ p, L[0]? = some p := ⟨_, List.getElem?_eq_getElem (by rw [HL.out]; omega)⟩
      obtain ⟨x0, d0⟩ := p0
      have hg0 : L.getD 0 (0, []) = (x0, d0) := by rw [List.getD_eq_getElem?_getD, hp0]; rfl
      have hx8 : x < 256 := (H8.out _ (List.mem_of_getElem? hp)).1
      have hat : fAt L lo hi i = if x < lo ∨ hi < x then 2 else if x ∈ (L.map (·.1)).take i then 6 else if d.length = d0.length then 0 else 3 := by unfold fAt; rw [hg, hg0]
      have HAT := hid hat
      obtain ⟨wk, hwk⟩ : ∃ wk : World, wk = wr := ⟨_, rfl⟩
      rw [← hwk] at HB
      rw [← hwk]
      clear hwk
      have hs := (unhid HB).size
      have C0 : Hid (∀ W, Below wk.heap.size wk W → ∃ (g o : Nat) (A1 A2 : Option Addr) (c1 c2 : Nat), A = some ⟨g, o, none⟩ ∧ W.cell? ⟨g, o + i * 2, none⟩ = some (.int .u8 (x : Int)) ∧ W.cell? ⟨g, o + i * 2 + 1, none⟩ = some (.slice A1 d.length c1) ∧ W.cell? ⟨g, o + 1, none⟩ = some (.slice A2 d0.length c2)) := hid fun W hW => by
        have hA := (unhid HA).below (((unhid HB).trans (hW.mono hs)).mono hD)
        obtain ⟨g, o, A1, c1, rfl, hg, q0, q1, _, _⟩ := hA.at hin hp
        obtain ⟨g', o', A2, c2, ea, hg', q2, q3, _, _⟩ := hA.at (show 0 < n by omega) hp0
        injection ea with ea
        injection ea with ea1 ea2
        subst ea1 ea2
        exact ⟨g, o, A1, A2, c1, c2, rfl, q0, q1, by rw [Nat.zero_mul, Nat.add_zero] at q3; exact q3⟩
      obtain ⟨g, o, A1, A2, c1, c2, rfl, q0, _, _⟩ := C0.out wk (Below.refl _ _)
      have i1 : (0 : Int) ≤ (i : Int) := by omega
      have i2 : (i : Int) < (n : Int) := by omega
      clear hg hg0 hat
      by_cases hr : (x : Int) < (lo : Int)
      · have hf : faultN L lo hi = 2 := fTo_past HF.out (by rw [HAT.out, if_pos (by omega)]) (by decide) _ (by rw [HL.out]; exact hin)
        have HFN := hid hf
        clear hf
        go_wp2_with fail
        go_ret
        exact ⟨by rw [HFN.out]; rfl, unhid HB⟩
      by_cases hr2 : (hi : Int) < (x : Int)
      · have hf : faultN L lo hi = 2 := fTo_past HF.out (by rw [HAT.out, if_pos (by omega)]) (by decide) _ (by rw [HL.out]; exact hin)
        have HFN := hid hf
        clear hf
        go_wp2_with fail
        go_ret
        exact ⟨by rw [HFN.out]; rfl, unhid HB⟩
      have HR : Hid (¬ (x < lo ∨ hi < x)) := hid (by omega)
      have HX8 := hid hx8; have HP := hid hp
      go_wp2_with fail
      clear hr hr2 hx8 q0 hp hp0
      go_loopw [8] (fun v8 wr => ∃ j : Nat, j ≤ i ∧ v8 = .int .i64 j ∧ Hid (∀ j', j' < j → (L.map (·.1))[j']? ≠ some x) ∧ Hid (Below wk.heap.size wk wr)) (fun v8 _ => i - (intOf v8).toNat)
      case atStart => exact ⟨0, Nat.zero_le _, rfl, hid fun j' h => absurd h (Nat.not_lt_zero _), Below.refl _ _⟩
      case round =>
        obtain ⟨j, hj, rfl, HD, HE⟩ := hrel
        have hEB := hid ((unhid HB).trans ((unhid HE).mono hs))
        obtain ⟨g', o', A1', A2', c1', c2', ea, q0, q1, q2⟩ := C0.out wr (unhid HE)
        injection ea with ea
        injection ea with ea1 ea2
        subst ea1 ea2
        by_cases hji : j < i
        · obtain ⟨pj, hpj⟩ : ∃ p, L[j]? = some p := ⟨_, List.getElem?_eq_getElem (by rw [HL.out]; omega)⟩
          obtain ⟨y, dy⟩ := pj
          obtain ⟨g', o', A3, c3, ea, hg', q4, q5, _, _⟩ := ((unhid HA).below ((unhid hEB).mono hD)).at (show j < n by omega) hpj
          injection ea with ea
          injection ea with ea1 ea2
          subst ea1 ea2
          have hmj : (L.map (·.1))[j]? = some y := by rw [List.getElem?_map, hpj]; rfl
          have HMJ := hid hmj
          have j1 : (0 : Int) ≤ (j : Int) := by omega
          have j2 : (j : Int) < (n : Int) := by omega
          have j3 : (j : Int) < (i : Int) := by omega
          clear hmj hpj q5 q1 q2
          by_cases hyx : y = x
          · have hin2 : x ∈ (L.map (·.1)).take i := by
              refine List.mem_of_getElem? (i := j) ?_
              rw [List.getElem?_take, if_pos hji, HMJ.out, hyx]
            have hf : faultN L lo hi = 6 := fTo_past HF.out (by rw [HAT.out, if_neg HR.out, if_pos hin2]) (by decide) _ (by rw [HL.out]; exact hin)
            have HFN := hid hf
            have t3 : ((y : Int) == (x : Int)) = true := by simp; omega
            clear hyx hin2 hf
            go_wp2_with fail
            go_quiet (fail)
            go_wp2_with fail
            go_ret
            exact ⟨by rw [HFN.out]; rfl, (unhid hEB).drewN _⟩
          · have t3 : ((y : Int) == (x : Int)) = false := by simp; omega
            have HYX := hid hyx
            have HD2 : Hid (∀ j', j' < j + 1 → (L.map (·.1))[j']? ≠ some x) := hid fun j' h e => by
              by_cases h' : j' = j
              · rw [h', HMJ.out] at e; exact HYX.out (Option.some.inj e)
              · exact HD.out j' (by omega) e
            clear hyx
            go_wp2_with fail
            go_quiet (fail)
            go_wp2_with fail
            go_roundw
            case rel => exact ⟨j + 1, by omega, by go_num, HD2, (unhid HE).drewN _⟩
            case measure => simp [intOf]; omega
        · have hji2 : j = i := by omega
          have j3 : ¬ (j : Int) < (i : Int) := by omega
          have hnin : x ∉ (L.map (·.1)).take i := fun hm => by
            obtain ⟨j', h', e⟩ := List.getElem_of_mem hm
            have hlt : j' < i := by rw [List.length_take] at h'; omega
            refine HD.out j' (by omega) ?_
            have := List.getElem?_eq_getElem h'
            rw [e, List.getElem?_take, if_pos hlt] at this
            exact this
          obtain ⟨m1, hm1⟩ : ∃ m, d.length = m := ⟨_, rfl⟩
          obtain ⟨m2, hm2⟩ : ∃ m, d0.length = m := ⟨_, rfl⟩
          rw [hm1] at q1
          rw [hm2] at q2
          have i3 : (0 : Int) < (n : Int) := by omega
          by_cases hmm : m1 = m2
          · have hf : fTo L lo hi (i + 1) = 0 := by rw [fTo, if_pos HF.out, HAT.out, if_neg HR.out, if_neg hnin, hm1, hm2, if_pos hmm]
            have HF2 := hid hf
            have t3 : ((m1 : Int) != (m2 : Int)) = false := by simp; omega
            clear hf hmm hnin hm1 hm2 hji2 q0
            go_wp2_with fail
            go_quiet (fail)
            go_wp2_with fail
            go_roundw
            case rel => exact ⟨i + 1, by omega, by go_num, HF2, (unhid hEB).drewN _⟩
            case measure => simp [intOf]; omega
          · have hf : faultN L lo hi = 3 := fTo_past HF.out (by rw [HAT.out, if_neg HR.out, if_neg hnin, hm1, hm2, if_neg hmm]) (by decide) _ (by rw [HL.out]; exact hin)
            have HFN := hid hf
            have t3 : ((m1 : Int) != (m2 : Int)) = true := by simp; omega
            clear hf hmm hnin hm1 hm2 hji2 q0
            go_wp2_with fail
            go_quiet (fail)
            go_wp2_with fail
            go_ret
            exact ⟨by rw [HFN.out]; rfl, (unhid hEB).drewN _⟩
    · have hin2 : i = n := by omega
      have i2 : ¬ (i : Int) < (n : Int) := by omega
      have hf : faultN L lo hi = 0 := by unfold faultN; rw [HL.out, ← hin2]; exact HF.out
      have HFN := hid hf
      clear hf hin2
      go_wp2_with fail
      go_ret
      exact ⟨by rw [HFN.out]; rfl, unhid HB⟩
end Go.Proofs.YtilaipdpbcfhkaaDoor

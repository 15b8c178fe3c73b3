/- The walk of the law ShareHides. -/
import Derived.Test.YtilaipdpbcfhkaaEnoughW
import Derived.Test.YtilaipdpbcfhkaaShareInW
import Derived.Test.YtilaipdpbcfhkaaCoefW
import Derived.Test.YtilaipdpbcfhkaaBytesW
import Derived.OpenShut
namespace Go.Proofs.Ytilaipdpbcfhkaa
set_option linter.unusedVariables false
open Go.RowKit Go.Mny
/-- rows of the call's own, in a slice of its own; none lies in X -/
def Rws (w : World) (B st bt gm n : Nat) (X : Nat → Prop) (R : List (List Nat)) : Prop :=
  ∃ es : List Value, Mny.Own w B st 1 (some ⟨gm, 0, none⟩) n n es ∧ R.length = n ∧
    (∀ (i : Nat) (r : List Nat), R[i]? = some r → ∃ (A : Option Addr) (c : Nat), es[i]? = some (Value.slice A r.length c) ∧ r.length ≤ c ∧ Mny.Own w B bt 1 A r.length c (byt r) ∧ ∀ g, at_ A = some g → ¬ X g) ∧
    (∀ (i j : Nat) (A A' : Option Addr) (m m' c c' g : Nat), i ≠ j → es[i]? = some (Value.slice A m c) → es[j]? = some (Value.slice A' m' c') → at_ A = some g → at_ A' ≠ some g)
theorem Rws.start {w : World} {B st bt gm n : Nat} {X : Nat → Prop} (h : Mny.Own w B st 1 (some ⟨gm, 0, none⟩) n n (List.replicate n (.slice none 0 0))) : Rws w B st bt gm n X (List.replicate n []) := by
  refine ⟨_, h, List.length_replicate, fun i r hi => ?_, fun i j A A' m m' c c' g hij hi hj hg => ?_⟩
  · rw [List.getElem?_replicate] at hi
    by_cases hin : i < n
    · rw [if_pos hin] at hi
      injection hi with hi
      subst hi
      exact ⟨none, 0, by rw [List.getElem?_replicate, if_pos hin]; rfl, Nat.le_refl _, Own.none _ _ _ _, fun g hg => by cases hg⟩
    · rw [if_neg hin] at hi; cases hi
  · rw [List.getElem?_replicate] at hi
    by_cases hin : i < n
    · rw [if_pos hin] at hi
      injection hi with hi
      injection hi with hi
      rw [← hi] at hg; cases hg
    · rw [if_neg hin] at hi; cases hi
theorem Rws.below {w w' : World} {B st bt gm n : Nat} {X : Nat → Prop} {R : List (List Nat)} (h : Rws w B st bt gm n X R) (hb : Below w.heap.size w w') : Rws w' B st bt gm n X R := by
  obtain ⟨es, h1, h2, h3, h4⟩ := h
  exact ⟨es, h1.below hb (Nat.le_refl _), h2, fun i r hi => by obtain ⟨A, c, e1, e2, e3, e4⟩ := h3 i r hi; exact ⟨A, c, e1, e2, e3.below hb (Nat.le_refl _), e4⟩, h4⟩
theorem Rws.weak {w : World} {B st bt gm n : Nat} {X X' : Nat → Prop} {R : List (List Nat)} (h : Rws w B st bt gm n X R) (hX : ∀ g, g < w.heap.size → X' g → X g) : Rws w B st bt gm n X' R := by
  obtain ⟨es, h1, h2, h3, h4⟩ := h
  exact ⟨es, h1, h2, fun i r hi => by obtain ⟨A, c, e1, e2, e3, e4⟩ := h3 i r hi; exact ⟨A, c, e1, e2, e3, fun g hg hx => e4 g hg (hX g (e3.from_ g hg).2 hx)⟩, h4⟩
theorem Rws.mat {w : World} {B st bt gm n : Nat} {X : Nat → Prop} {R : List (List Nat)} (h : Rws w B st bt gm n X R) : Mat w w.heap.size (some ⟨gm, 0, none⟩) n R := by
  obtain ⟨es, h1, h2, h3, h4⟩ := h
  exact ⟨es, Row.of_own h1, h2, fun i r hi => by obtain ⟨A, c, e1, e2, e3, e4⟩ := h3 i r hi; exact ⟨A, c, e1, e2, Row.of_own e3⟩⟩
theorem Rws.at {w : World} {B st bt gm n : Nat} {X : Nat → Prop} {R : List (List Nat)} (h : Rws w B st bt gm n X R) {i : Nat} {r : List Nat} (hi : i < n) (hr : R[i]? = some r) (hgm : X gm) (hX : ∀ g, X g → g < w.heap.size) :
    ∃ (A : Option Addr) (c : Nat), w.cell? ⟨gm, i, none⟩ = some (Value.slice A r.length c) ∧ w.frozen? ⟨gm, i, none⟩ = false ∧ r.length ≤ c ∧ Mny.Own w B bt 1 A r.length c (byt r) ∧ Hid (∀ g, at_ A = some g → ¬ X g) ∧
      Hid (∀ (w2 : World) (A2 : Option Addr) (c2 x : Nat), Kept (fun j => at_ A = some j) w w2 → Mny.Own w2 B bt 1 A2 (r.length + 1) c2 (byt (r ++ [x])) → (at_ A2 = at_ A ∨ ∃ g, at_ A2 = some g ∧ w.heap.size ≤ g) →
        Rws (w2.setCell ⟨gm, i, none⟩ (.slice A2 (r.length + 1) c2)) B st bt gm n X (R.set i (r ++ [x]))) := by
  obtain ⟨es, h1, h2, h3, h4⟩ := h
  obtain ⟨A, c, e1, e2, e3, e4⟩ := h3 i r hr
  have hg1 := h1.get1 hi
  refine ⟨A, c, hg1.1.trans e1, hg1.2, e2, e3, e4, hid fun w2 A2 c2 x hk ho hl => ?_⟩
  have hgl : gm < w.heap.size := hX gm hgm
  have hel : es.length = n := by have := h1.len; omega
  have h1' : Mny.Own w2 B st 1 (some ⟨gm, 0, none⟩) n n es := h1.kept hk (fun g hg h => e4 g h (by have : g = gm := (Option.some.inj hg).symm; rw [this]; exact hgm))
  have hA2 : ∀ g, at_ A2 = some g → ¬ X g := fun g hg hx => by
    rcases hl with h | ⟨g', h, hle⟩
    · exact e4 g (h ▸ hg) hx
    · rw [h] at hg; injection hg with hg; have := hX g hx; omega
  refine ⟨_, (h1'.set1 hi _).2.1, by rw [List.length_set, h2], fun j s hj => ?_, fun j j' B1 B2 m m' d d' g hjj hj hj' hg => ?_⟩
  · by_cases hji : i = j
    · subst hji
      rw [List.getElem?_set_self (by omega)] at hj
      injection hj with hj
      subst hj
      refine ⟨A2, c2, by rw [List.getElem?_set_self (by omega), List.length_append]; rfl, ?_, ?_, hA2⟩
      · rw [List.length_append]; exact ho.le.1
      · rw [List.length_append]
        exact ho.keep fun q hq => Below.heap_setCell _ _ _ _ (fun (e : q = gm) => hA2 q hq (by rw [e]; exact hgm))
    · rw [List.getElem?_set_ne hji] at hj
      obtain ⟨A', c', f1, f2, f3, f4⟩ := h3 j s hj
      refine ⟨A', c', by rw [List.getElem?_set_ne hji]; exact f1, f2, ?_, f4⟩
      exact (f3.kept hk (fun g hg h => h4 i j A A' _ _ _ _ g hji e1 f1 h hg)).keep fun q hq => Below.heap_setCell _ _ _ _ (fun (e : q = gm) => f4 q hq (by rw [e]; exact hgm))
  · have old : ∀ (j : Nat) (B1 : Option Addr) (m d g : Nat), es[j]? = some (Value.slice B1 m d) → at_ B1 = some g → g < w.heap.size := fun j B1 m d g hj hg => by
      have hjl := (List.getElem?_eq_some_iff.1 hj).1
      obtain ⟨A', c', f1, f2, f3, f4⟩ := h3 j _ (List.getElem?_eq_getElem (by omega))
      rw [hj] at f1
      injection f1 with f1
      injection f1 with f1
      exact (f3.from_ g (f1 ▸ hg)).2
    by_cases hji : i = j
    · subst hji
      rw [List.getElem?_set_self (by omega)] at hj
      rw [List.getElem?_set_ne hjj] at hj'
      injection hj with hj
      injection hj with hj
      subst hj
      intro hg'
      rcases hl with h | ⟨g', h, hle⟩
      · exact h4 i j' A B2 _ _ _ _ g hjj e1 hj' (h ▸ hg) hg'
      · rw [h] at hg; injection hg with hg; have := old _ _ _ _ _ hj' hg'; omega
    · rw [List.getElem?_set_ne hji] at hj
      by_cases hji' : i = j'
      · subst hji'
        rw [List.getElem?_set_self (by omega)] at hj'
        injection hj' with hj'
        injection hj' with hj'
        subst hj'
        intro hg'
        rcases hl with h | ⟨g', h, hle⟩
        · exact h4 j i B1 A _ _ _ _ g hjj hj e1 hg (h ▸ hg')
        · rw [h] at hg'; injection hg' with hg'; have := old _ _ _ _ _ hj hg; omega
      · rw [List.getElem?_set_ne hji'] at hj'
        exact h4 j j' B1 B2 _ _ _ _ g hjj hj hj' hg
/-- the rows that are made of polynomials -/
def rowOf (CS : List (List Nat)) (q : Nat) : List Nat := CS.map fun C => C.getD (q + 1) 0
def rowsN (n : Nat) (CS : List (List Nat)) : List (List Nat) := (List.range n).map fun q => rowOf CS q
def rowsM (n : Nat) (CS : List (List Nat)) (C : List Nat) (i : Nat) : List (List Nat) := (List.range n).map fun q => if q < i then rowOf (CS ++ [C]) q else rowOf CS q
theorem rowOf_snoc (CS : List (List Nat)) (C : List Nat) (q : Nat) : rowOf (CS ++ [C]) q = rowOf CS q ++ [C.getD (q + 1) 0] := by simp [rowOf]
theorem rowsM_zero (n : Nat) (CS : List (List Nat)) (C : List Nat) : rowsM n CS C 0 = rowsN n CS := List.map_congr_left fun q _ => by rw [if_neg (by omega)]
theorem rowsM_all (n : Nat) (CS : List (List Nat)) (C : List Nat) : rowsM n CS C n = rowsN n (CS ++ [C]) := List.map_congr_left fun q hq => by rw [if_pos (List.mem_range.1 hq)]
theorem rowsM_get {n i : Nat} (CS : List (List Nat)) (C : List Nat) (h : i < n) : (rowsM n CS C i)[i]? = some (rowOf CS i) := by
  unfold rowsM
  rw [List.getElem?_map, List.getElem?_range h, Option.map_some, if_neg (by omega)]
theorem rowsM_set {n i : Nat} (CS : List (List Nat)) (C : List Nat) (h : i < n) : (rowsM n CS C i).set i (rowOf CS i ++ [C.getD (i + 1) 0]) = rowsM n CS C (i + 1) := by
  rw [← rowOf_snoc]
  have hl : ∀ i, (rowsM n CS C i).length = n := fun i => by simp [rowsM]
  refine List.ext_getElem? fun j => ?_
  by_cases hj : j < n
  · by_cases hji : i = j
    · subst hji
      rw [List.getElem?_set_self (by rw [hl]; exact hj)]
      unfold rowsM
      rw [List.getElem?_map, List.getElem?_range hj, Option.map_some, if_pos (by omega)]
    · rw [List.getElem?_set_ne hji]
      unfold rowsM
      rw [List.getElem?_map, List.getElem?_map, List.getElem?_range hj, Option.map_some, Option.map_some]
      by_cases h' : j < i
      · rw [if_pos h', if_pos (by omega)]
      · rw [if_neg h', if_neg (by omega)]
  · rw [List.getElem?_eq_none (by rw [List.length_set, hl]; omega), List.getElem?_eq_none (by rw [hl]; omega)]
theorem rowsN_nil (n : Nat) : rowsN n [] = List.replicate n [] := by
  simp [rowsN, rowOf, List.map_const']
theorem datN_at {sec : List Nat} {M : List (List Nat)} {x j k : Nat} (h : k < j) : (datN sec M x j)[k]? = some (Fld.ev (sec.getD k 0 :: col M k) x) := by
  unfold datN
  rw [List.getElem?_map, List.getElem?_range h]; rfl
/-- what is made tells the shares -/
theorem hides (sec : List Nat) (L : List (Nat × List Nat)) (n s : Nat) (hn : L.length = n) (hs : sec.length = s) (CS : List (List Nat)) (hc : CS.length = s)
    (hT : ∀ k C, CS[k]? = some C → Thr (0 :: L.map (·.1)) (sec.getD k 0 :: L.map fun p => p.2.getD k 0) C (1 + n)) (i x : Nat) (d : List Nat) (hi : L[i]? = some (x, d)) (hd : d.length = s) :
    datN sec (rowsN n CS) x s = d := by
  refine List.ext_getElem? fun k => ?_
  by_cases hks : k < s
  rotate_left
  · rw [List.getElem?_eq_none (by rw [datN_len]; omega), List.getElem?_eq_none (by omega)]
  have h2 : k < d.length := by omega
  have hC : CS[k]? = some (CS[k]'(by omega)) := List.getElem?_eq_getElem _
  obtain ⟨t1, t2, t3⟩ := hT k _ hC
  obtain ⟨C, hCe⟩ : ∃ C, CS[k]'(by omega) = C := ⟨_, rfl⟩
  rw [hCe] at t1 t2 t3 hC
  have hil : i < n := by rw [← hn]; exact (List.getElem?_eq_some_iff.1 hi).1
  have hlen : C.length = 1 + n := by rw [t1, List.length_cons, List.length_map, hn]; omega
  have e0 := t3 0 (by rw [List.length_cons]; omega)
  have e1 := t3 (i + 1) (by rw [List.length_cons, List.length_map]; omega)
  rw [if_pos (by omega)] at e0 e1
  have hcol : col (rowsN n CS) k = (List.range n).map fun q => C.getD (q + 1) 0 := by
    unfold col rowsN
    rw [List.map_map]
    refine List.map_congr_left fun q _ => ?_
    show (rowOf CS q).getD k 0 = C.getD (q + 1) 0
    unfold rowOf
    rw [List.getD_eq_getElem?_getD, List.getElem?_map, hC]; rfl
  have hc0 : C = C.getD 0 0 :: (List.range n).map fun q => C.getD (q + 1) 0 := by
    refine List.ext_getElem (by simp; omega) fun j j1 j2 => ?_
    cases j with
    | zero => rw [List.getElem_cons_zero, List.getD_eq_getElem?_getD, List.getElem?_eq_getElem j1]; rfl
    | succ j => rw [List.getElem_cons_succ, List.getElem_map, List.getElem_range, List.getD_eq_getElem?_getD, List.getElem?_eq_getElem j1]; rfl
  have hev0 : C.getD 0 0 = sec.getD k 0 := by
    have : Fld.ev C 0 = C.getD 0 0 := by
      conv => lhs; rw [hc0]
      rw [Fld.ev_cons, Fld.mul_zero, Nat.zero_xor]
    rw [← this]; exact e0
  have hx : (0 :: L.map (·.1)).getD (i + 1) 0 = x := by
    rw [List.getD_cons_succ, List.getD_eq_getElem?_getD, List.getElem?_map, hi]; rfl
  have hv : (sec.getD k 0 :: L.map fun p => p.2.getD k 0).getD (i + 1) 0 = d[k] := by
    rw [List.getD_cons_succ, List.getD_eq_getElem?_getD, List.getElem?_map, hi]
    show d.getD k 0 = d[k]
    rw [List.getD_eq_getElem?_getD, List.getElem?_eq_getElem h2]; rfl
  rw [hx, hv] at e1
  rw [datN_at hks, List.getElem?_eq_getElem h2, hcol, ← hev0, ← hc0, e1]
set_option maxHeartbeats 4000000 in
set_option maxRecDepth 100000 in
theorem shareHides_walk (A0 : Option Addr) (n0 c0 : Nat) (l0 : List Int) (A1 : Option Addr) (n1 c1 m1 : Nat) (w : World) (b0 : n0 ≤ c0) (g0 : c0 ≤ maxLen) (r0 : Row w w.heap.size 1 A0 n0 (l0.map (Value.int .u8))) (f0 : ∀ z ∈ l0, (Lit.int .u8 z).wf = true) (s1 : Sh.ok w w.heap.size (.slice 2 (shareSh)) m1 [.slice A1 n1 c1]) :
    Calls Try.prog 6 #[.slice A0 n0 c0, .slice A1 n1 c1] w fun e w' => e = .returned (.bool true) ∧ Below w.heap.size w w' := by
  have hn1 : n1 ≤ 9223372036854775807 := by
    obtain ⟨A, n, c, es, f, hv, h1, h2, _⟩ := s1
    simp only [List.cons.injEq, Value.slice.injEq, and_true] at hv
    obtain ⟨_, rfl, rfl⟩ := hv
    unfold maxLen at h2; omega
  have hn0 : n0 ≤ 9223372036854775807 := by unfold maxLen at g0; omega
  obtain ⟨A, n, c, L, hv, hc1, hL, h8, hm⟩ := Sh.shares s1
  injection hv with e1 e2 e3
  subst e1 e2 e3
  obtain ⟨q1, q2⟩ := nats_byt f0
  rw [q1] at r0
  obtain ⟨sec, hsec⟩ : ∃ b, l0.map Int.toNat = b := ⟨_, rfl⟩
  rw [hsec] at r0 q2
  have hsl : sec.length = n0 := by have := r0.len; rw [byt_len] at this; omega
  have hll : L.length = n1 := by obtain ⟨_, _, h, _⟩ := hL; exact h
  have L8 : Hid (∀ p ∈ L, p.1 < 256 ∧ By8s p.2 ∧ p.2.length ≤ 9223372036854775807) := hid fun p hp => ⟨(h8 p hp).1, (h8 p hp).2.1, by have := (h8 p hp).2.2; omega⟩
  have R0 := hid r0; have HL := hid hL; have S8 := hid q2; have HSL := hid hsl; have HLL := hid hll
  clear s1 hL h8 hm hc1 f0 q1 q2 r0 hsec hsl hll g0 b0
  go_enter Try.func6, Try.ntmps6
  go_wp2_with fail
  refine (split_fact _).mono ?_
  rintro e w1 ⟨rfl, hb1⟩
  have E1 := hid hb1
  clear hb1
  by_cases t1 : (n1 : Int) < 1
  · go_wp2_with fail
    go_ret
    exact ⟨rfl, unhid E1⟩
  by_cases t2 : (6 : Int) < (n1 : Int)
  · go_wp2_with fail
    go_ret
    exact ⟨rfl, unhid E1⟩
  have hsf : Calls Try.prog 15 #[.slice A1 n1 c1, .int .i64 1, .int .i64 20] w1 fun e w' => e = .returned (.int .i64 (faultN L 1 20)) ∧ Below w1.heap.size w1 w' :=
    sfault_any L 1 20 A1 n1 c1 w.heap.size w1 ((unhid HL).below (unhid E1)) (unhid E1).size hn1 L8.out
  obtain ⟨r, hr⟩ : ∃ r, faultN L 1 20 = r := ⟨_, rfl⟩
  rw [hr] at hsf
  have SF := hid hsf; have HR := hid hr
  clear hsf hr
  have hd0 : ∃ (g o : Nat) (Ad : Option Addr) (x0 : Nat) (d0 : List Nat) (cd : Nat), A1 = some ⟨g, o, none⟩ ∧ L[0]? = some (x0, d0) ∧ g < w.heap.size ∧ w.cell? ⟨g, o + 1, none⟩ = some (.slice Ad d0.length cd) := by
    obtain ⟨p, hp⟩ : ∃ p, L[0]? = some p := ⟨_, List.getElem?_eq_getElem (by rw [HLL.out]; omega)⟩
    obtain ⟨x0, d0⟩ := p
    obtain ⟨g, o, Ad, cd, e, hg, q0, q1, _, _⟩ := (unhid HL).at (show 0 < n1 by omega) hp
    exact ⟨g, o, Ad, x0, d0, cd, e, hp, hg, by rw [Nat.zero_mul, Nat.add_zero] at q1; exact q1⟩
  obtain ⟨g1, o1, Ad0, x0, d0, cd0, rfl, hp0, hg1, hc0⟩ := hd0
  have CD : Hid (∀ W, Below w.heap.size w W → W.cell? ⟨g1, o1 + 1, none⟩ = some (.slice Ad0 d0.length cd0)) := hid fun W hW => (hW.cell (p := ⟨g1, o1 + 1, none⟩) hg1).trans hc0
  have HP0 := hid hp0
  clear hc0 hp0
  by_cases hr0 : r = 0
  rotate_left
  · have t3 : (r != 0) = true := by simp; exact hr0
    clear hr0 CD
    go_wp2_with fail
    refine (unhid SF).mono ?_
    rintro e w2 ⟨rfl, hb2⟩
    have E2 := hid ((unhid E1).trans (hb2.mono (unhid E1).size))
    clear hb2
    go_wp2_with fail
    go_ret
    exact ⟨rfl, unhid E2⟩
  subst hr0
  obtain ⟨hfa, hnd⟩ := fault_none HR.out
  have hg0 : L.getD 0 (0, []) = (x0, d0) := by rw [List.getD_eq_getElem?_getD, HP0.out]; rfl
  rw [hg0] at hfa
  have HFA := hid hfa; have HND := hid hnd
  clear hfa hnd hg0
  obtain ⟨m0, hm0⟩ : ∃ m, d0.length = m := ⟨_, rfl⟩
  rw [hm0] at CD
  have HM0 := hid hm0
  clear hm0
  by_cases hmn : m0 = n0
  rotate_left
  · have t3 : ((m0 : Int) != (n0 : Int)) = true := by simp; omega
    clear hmn
    go_wp2_with fail
    refine (unhid SF).mono ?_
    rintro e w2 ⟨rfl, hb2⟩
    have E2 := hid ((unhid E1).trans (hb2.mono (unhid E1).size))
    have hc := CD.out _ (unhid E2)
    clear hb2 CD
    go_wp2_with fail
    go_ret
    exact ⟨rfl, unhid E2⟩
  subst hmn
  have t3 : ((m0 : Int) != (m0 : Int)) = false := by simp
  by_cases t4 : (100 : Int) < (m0 : Int)
  · go_wp2_with fail
    refine (unhid SF).mono ?_
    rintro e w2 ⟨rfl, hb2⟩
    have E2 := hid ((unhid E1).trans (hb2.mono (unhid E1).size))
    have hc := CD.out _ (unhid E2)
    clear hb2 CD
    go_wp2_with fail
    go_ret
    exact ⟨rfl, unhid E2⟩
  have FL : Hid (∀ p ∈ L, 1 ≤ p.1 ∧ p.1 ≤ 20 ∧ p.2.length = m0 ∧ By8s p.2) := hid fun p hp => by
    have h := HFA.out p hp
    exact ⟨h.1, h.2.1, by rw [h.2.2]; exact HM0.out, (L8.out p hp).2.1⟩
  have HN1 : Hid (1 ≤ n1 ∧ n1 ≤ 6 ∧ m0 ≤ 100) := hid (by omega)
  clear HFA HM0 HP0
  go_wp2_with fail
  refine (unhid SF).mono ?_
  rintro e wm ⟨rfl, hb2⟩
  have Em := hid ((unhid E1).trans (hb2.mono (unhid E1).size))
  have hc := CD.out _ (unhid Em)
  clear hb2 CD SF HR E1 t3
  go_wp2_with (with_reducible refine halt_op (some 50) (.makeSlice _ _ _) (fun K hK => ?_))
  clear hc t1 t2 t4
  refine go_on hK ?_; clear hK
  have hn16 := HN1.out.2.1
  refine make_full (.slice none 0 0) Try.underlying42 (b := 24) (by kernel_rfl) rfl rfl (.tmp 49) (.tmp 49) rfl rfl rfl (n := n1) (by omega) (by simp [maxLen]; omega) ?_
  intro gm w3 hgm o3 e3 hz3
  have hgmB : wm.heap.size ≤ gm := by omega
  have hgm3 : gm < w3.heap.size := by omega
  have HR3 : Hid (Rws w3 wm.heap.size 35 5 gm n1 (fun j => j = gm) (rowsN n1 [])) := hid (by rw [rowsN_nil]; exact Rws.start o3)
  have HB3 := hid e3
  clear o3 e3 hgm hz3 hn16
  have hwm := (unhid Em).size
  go_wp2_with fail
  go_loopw [7] (fun v7 wr => ∃ (k : Nat) (CS : List (List Nat)), k ≤ m0 ∧ v7 = .int .i64 k ∧ Hid (CS.length = k) ∧ Hid (∀ j C, CS[j]? = some C → Thr (0 :: L.map (·.1)) (sec.getD j 0 :: L.map fun p => p.2.getD j 0) C (1 + n1)) ∧ Hid (∀ C ∈ CS, By8s C) ∧ Hid (Rws wr wm.heap.size 35 5 gm n1 (fun j => j = gm) (rowsN n1 CS)) ∧ Hid (Below wm.heap.size wm wr)) (fun v7 _ => m0 - (intOf v7).toNat)
  case atStart => exact ⟨0, [], Nat.zero_le _, rfl, hid rfl, hid (fun j C h => by simp at h), hid (fun C h => by cases h), HR3, HB3⟩
  case round =>
    obtain ⟨k, CS, hk, rfl, HCL, HTH, HC8, HRW, HB⟩ := hrel
    have hgmw : gm < wr.heap.size := by obtain ⟨es, h1, _⟩ := unhid HRW; exact (h1.from_ gm rfl).2
    have hbw := (unhid HB).size
    by_cases hkm : k < m0
    · obtain ⟨wk, hwk⟩ : ∃ wk : World, wk = wr := ⟨_, rfl⟩
      rw [← hwk] at HRW HB hgmw hbw
      rw [← hwk]
      clear hwk
      have hEk := hid ((unhid Em).trans ((unhid HB).mono hwm))
      obtain ⟨ga, oa, sk, rfl, hga, hsk, hcs⟩ := ((unhid R0).below (unhid hEk)).byte hkm
      have hsg : sec.getD k 0 = sk := by rw [List.getD_eq_getElem?_getD, hsk]; rfl
      have hs8 : sk < 256 := S8.out _ (List.mem_of_getElem? hsk)
      have HSG := hid hsg; have HS8 := hid hs8
      have i1 : (0 : Int) ≤ (k : Int) := by omega
      have i2 : (k : Int) < (m0 : Int) := by omega
      have hgak : ga < wk.heap.size := Nat.lt_of_lt_of_le hga (unhid hEk).size
      have hcs2 : (wk.alloc (.cells #[.int .u8 0] 5)).cell? ⟨ga, oa + k, none⟩ = some (.int .u8 (sk : Int)) := (World.cell?_alloc_old _ _ _ (Nat.ne_of_lt hgak)).trans hcs
      clear hsk hsg hs8 hcs
      go_wp2_with fail
      clear hcs2
      have OA : Hid (Mny.Own ((wk.alloc (.cells #[.int .u8 0] 5)).alloc (.cells #[.int .u8 (sk : Int)] 5)) wk.heap.size 5 1 (some ⟨wk.heap.size, 0, none⟩) (1 + 0) 1 (byt (0 :: (L.take 0).map (·.1)))) := hid ((Own.lit_at wk wk.heap.size 5 1 1 wk.heap.size _ _ rfl (Nat.le_refl _) (by decide) rfl rfl).alloc _)
      have OV : Hid (Mny.Own ((wk.alloc (.cells #[.int .u8 0] 5)).alloc (.cells #[.int .u8 (sk : Int)] 5)) wk.heap.size 5 1 (some ⟨wk.heap.size + 1, 0, none⟩) (1 + 0) 1 (byt (sk :: (L.take 0).map fun p => p.2.getD k 0))) := hid (Own.lit_at (wk.alloc (.cells #[.int .u8 0] 5)) wk.heap.size 5 1 1 (wk.heap.size + 1) _ _ (by simp) (by simp) (by decide) rfl rfl)
      have EO : Hid (Below wk.heap.size wk ((wk.alloc (.cells #[.int .u8 0] 5)).alloc (.cells #[.int .u8 (sk : Int)] 5))) := hid (((Below.refl wk.heap.size wk).alloc (Nat.le_refl _) _).alloc (by simp) _)
      have DO : Hid (∀ g, at_ (some ⟨wk.heap.size, 0, none⟩ : Option Addr) = some g → at_ (some ⟨wk.heap.size + 1, 0, none⟩ : Option Addr) ≠ some g) := hid (fun g h h' => by have e1 := Option.some.inj h; have e2 := Option.some.inj h'; simp at e1 e2; omega)
      generalize (wk.alloc (.cells #[.int .u8 0] 5)).alloc (.cells #[.int .u8 (sk : Int)] 5) = w4 at OA OV EO ⊢
      generalize (some ⟨wk.heap.size, 0, none⟩ : Option Addr) = AA0 at OA DO ⊢
      generalize (some ⟨wk.heap.size + 1, 0, none⟩ : Option Addr) = AV0 at OV DO ⊢
      go_loopw [8, 9, 10] (fun v8 v9 v10 wr => ∃ (i : Nat) (AA AV : Option Addr) (cA cV : Nat), i ≤ n1 ∧ v10 = .int .i64 i ∧ v8 = .slice AA (1 + i) cA ∧ v9 = .slice AV (1 + i) cV ∧ Hid (Mny.Own wr wk.heap.size 5 1 AA (1 + i) cA (byt (0 :: (L.take i).map (·.1)))) ∧ Hid (Mny.Own wr wk.heap.size 5 1 AV (1 + i) cV (byt (sk :: (L.take i).map fun p => p.2.getD k 0))) ∧ Hid (∀ g, at_ AA = some g → at_ AV ≠ some g) ∧ Hid (Below wk.heap.size wk wr)) (fun _ _ v10 _ => n1 - (intOf v10).toNat)
      case atStart => exact ⟨0, AA0, AV0, 1, 1, Nat.zero_le _, rfl, rfl, rfl, OA, OV, DO, EO⟩
      case round =>
        obtain ⟨i, AA, AV, cA, cV, hi, rfl, rfl, rfl, HA, HV, HD, HE⟩ := hrel
        have hes := (unhid HE).size
        by_cases hin : i < n1
        · have hEw := hid ((unhid hEk).trans ((unhid HE).mono (unhid hEk).size))
          obtain ⟨p, hp⟩ : ∃ p, L[i]? = some p := ⟨_, List.getElem?_eq_getElem (by rw [HLL.out]; exact hin)⟩
          obtain ⟨x, d⟩ := p
          obtain ⟨hx1, hx2, hdl, hd8⟩ := FL.out _ (List.mem_of_getElem? hp)
          dsimp only at hx1 hx2 hdl hd8
          obtain ⟨g', o', Ad, cd, ea, hg', q0, q1, hle, hrow⟩ := (unhid HL).at hin hp
          injection ea with ea
          injection ea with ea1 ea2
          subst ea1 ea2
          rw [hdl] at q1 hrow
          obtain ⟨gd, od, y, rfl, hgd, hy, hcy⟩ := hrow.byte hkm
          have hyg : d.getD k 0 = y := by rw [List.getD_eq_getElem?_getD, hy]; rfl
          have CX : Hid (∀ W, Below w.heap.size w W → W.cell? ⟨g1, o1 + i * 2, none⟩ = some (.int .u8 (x : Int)) ∧ W.cell? ⟨g1, o1 + i * 2 + 1, none⟩ = some (.slice (some ⟨gd, od, none⟩) m0 cd) ∧ W.cell? ⟨gd, od + k, none⟩ = some (.int .u8 (y : Int))) := hid fun W hW =>
            ⟨(hW.cell (p := ⟨g1, o1 + i * 2, none⟩) hg1).trans q0, (hW.cell (p := ⟨g1, o1 + i * 2 + 1, none⟩) hg1).trans q1, (hW.cell (p := ⟨gd, od + k, none⟩) hgd).trans hcy⟩
          have hta : (L.take (i + 1)) = L.take i ++ [(x, d)] := by rw [List.take_add_one, hp]; rfl
          have HTA := hid hta; have HYG := hid hyg
          have cx1 := (CX.out _ (unhid hEw)).1
          have j1 : (0 : Int) ≤ (i : Int) := by omega
          have j2 : (i : Int) < (n1 : Int) := by omega
          clear hp hx1 hx2 hdl hd8 q0 q1 hle hrow hy hcy hyg hta
          go_wp2_with (at_builtin; refine halt_at (fun K hK => ?_))
          refine go_on hK ?_; clear hK
          refine app_step bytS rfl (.tmp 69) (.tmp 75) rfl rfl ((unhid HA).alloc _) rfl (Row.lit_at _ _ _ 1 _ (byt [x]) rfl rfl rfl) (byt_one _) (by simp [maxLen]; omega) (by omega) (by simp; omega) ?_
          intro A2 c2 w5 o5 g5 l5
          have kg5 : Kept (fun j => at_ AA = some j) wr w5 := ((Kept.refl (fun j => at_ AA = some j) wr).alloc _).trans (Kept.of_grown g5) (fun j _ h => h)
          have b5 : Below wk.heap.size wk w5 := Below.grown ((unhid HE).alloc hes _) g5 (by simp; omega) (fun q hq => ((unhid HA).from_ q hq).1)
          have v5 := (unhid HV).kept kg5 (fun g hg h => HD.out g h hg)
          have d5 : ∀ g, at_ A2 = some g → at_ AV ≠ some g := fun g hg hg' => by
            rcases l5 with l | l
            · exact HD.out g (l ▸ hg) hg'
            · rw [l] at hg; have e1 := Option.some.inj hg; have := ((unhid HV).from_ g hg').2; simp at e1; omega
          rw [← byt_append, List.cons_append, show (L.take i).map (·.1) ++ [x] = (L.take (i + 1)).map (·.1) by rw [HTA.out, List.map_append]; rfl, Nat.add_assoc] at o5
          have HA5 := hid o5; have HB5 := hid b5; have HV5 := hid v5; have HD5 := hid d5
          have hs5 := b5.size
          have hEw5 := hid ((unhid hEk).trans (b5.mono (unhid hEk).size))
          obtain ⟨_, cx2, cx3⟩ := CX.out _ (unhid hEw5)
          clear o5 b5 v5 d5 g5 l5 kg5 HA HV HD HE cx1 hEw hes
          rw [Nat.add_assoc]
          go_wp2_with (at_builtin; refine halt_at (fun K hK => ?_))
          refine go_on hK ?_; clear hK
          refine app_step bytS rfl (.tmp 77) (.tmp 86) rfl rfl ((unhid HV5).alloc _) rfl (Row.lit_at _ _ _ 1 _ (byt [y]) rfl rfl rfl) (byt_one _) (by simp [maxLen]; omega) (by omega) (by simp; omega) ?_
          intro A3 c3 w6 o6 g6 l6
          have kg6 : Kept (fun j => at_ AV = some j) w5 w6 := ((Kept.refl (fun j => at_ AV = some j) w5).alloc _).trans (Kept.of_grown g6) (fun j _ h => h)
          have b6 : Below wk.heap.size wk w6 := Below.grown ((unhid HB5).alloc hs5 _) g6 (by simp; omega) (fun q hq => ((unhid HV5).from_ q hq).1)
          have a6 := (unhid HA5).kept kg6 (fun g hg h => HD5.out g hg h)
          have d6 : ∀ g, at_ A2 = some g → at_ A3 ≠ some g := fun g hg hg' => by
            rcases l6 with l | l
            · exact HD5.out g hg (l ▸ hg')
            · rw [l] at hg'; have e1 := Option.some.inj hg'; have := ((unhid HA5).from_ g hg).2; simp at e1; omega
          rw [← byt_append, List.cons_append, show ((L.take i).map fun p => p.2.getD k 0) ++ [y] = (L.take (i + 1)).map (fun p => p.2.getD k 0) by rw [HTA.out, List.map_append, ← HYG.out]; rfl, Nat.add_assoc] at o6
          have HA6 := hid a6; have HB6 := hid b6; have HV6 := hid o6; have HD6 := hid d6
          clear o6 b6 a6 d6 g6 l6 kg6 HA5 HV5 HD5 HB5 cx2 cx3 hEw5 hs5
          rw [Nat.add_assoc]
          go_wp2_with fail
          go_roundw
          case rel => exact ⟨i + 1, A2, A3, c2, c3, by omega, by go_num, rfl, rfl, HA6, HV6, HD6, HB6⟩
          case measure => simp [intOf]; omega
        · have hin2 : n1 = i := by omega
          subst hin2
          have j2 : ¬ (n1 : Int) < (n1 : Int) := by omega
          have htk : L.take n1 = L := List.take_of_length_le (by rw [HLL.out]; exact Nat.le_refl _)
          rw [htk] at HA HV
          have CO := hid (coeffs_any (0 :: L.map (·.1)) (sk :: L.map fun p => p.2.getD k 0) AA AV (1 + n1) cA cV wr.heap.size wr (Row.of_own (unhid HA)) (Row.of_own (unhid HV)) (Nat.le_refl _)
            (by
              intro z hz
              rcases List.mem_cons.1 hz with rfl | hz
              · decide
              · obtain ⟨p, hp, rfl⟩ := List.mem_map.1 hz; exact (L8.out p hp).1)
            (by
              intro z hz
              rcases List.mem_cons.1 hz with rfl | hz
              · exact HS8.out
              · obtain ⟨p, hp, rfl⟩ := List.mem_map.1 hz; exact getD_by (L8.out p hp).2.1 k)
            (by
              rw [List.nodup_cons]
              refine ⟨fun h => ?_, HND.out⟩
              obtain ⟨p, hp, h0⟩ := List.mem_map.1 h
              have := (FL.out p hp).1
              omega) (by omega) (by omega))
          have HRw := hid ((unhid HRW).below (unhid HE))
          have HBw := hid ((unhid HB).trans ((unhid HE).mono hbw))
          clear htk HA HV HD OA OV EO DO
          go_wp2_with fail
          refine (unhid CO).mono ?_
          rintro e wo ⟨gc, C, rfl, oC, hth, hbo⟩
          obtain ⟨wp, hwp⟩ : ∃ wp : World, wp = wr := ⟨_, rfl⟩
          rw [← hwp] at oC hbo HRw HBw hes
          clear hwp CO HE
          have hgcp : wp.heap.size ≤ gc := (oC.from_ gc rfl).1
          have hgco : gc < wo.heap.size := (oC.from_ gc rfl).2
          have hgmp : gm < wp.heap.size := by omega
          have hbp := (unhid HBw).size
          have HC1 : Hid (Mny.Own wo wp.heap.size 5 1 (some ⟨gc, 0, none⟩) (1 + n1) (1 + n1) (byt C)) := hid oC
          have HR1 : Hid (Rws wo wm.heap.size 35 5 gm n1 (fun j => j = gm ∨ j = gc) (rowsM n1 CS C 0)) := hid (by
            rw [rowsM_zero]
            exact ((unhid HRw).weak (fun g hg h => by rcases h with h | h; exact h; omega)).below hbo)
          have HB1 := hid ((unhid HBw).trans (hbo.mono hbp))
          have hc8 : By8s C := hth.2.1
          have hcl : C.length = 1 + n1 := by rw [hth.1, List.length_cons, List.length_map, HLL.out]; omega
          have HC8' := hid hc8; have HCLn := hid hcl; have HTHC := hid hth
          clear oC hth hbo HRw HBw hc8 hcl
          go_wp2_with fail
          go_loopw [12] (fun v12 wr => ∃ i : Nat, i ≤ n1 ∧ v12 = .int .i64 i ∧ Hid (Rws wr wm.heap.size 35 5 gm n1 (fun j => j = gm ∨ j = gc) (rowsM n1 CS C i)) ∧ Hid (Mny.Own wr wp.heap.size 5 1 (some ⟨gc, 0, none⟩) (1 + n1) (1 + n1) (byt C)) ∧ Hid (Below wm.heap.size wm wr)) (fun v12 _ => n1 - (intOf v12).toNat)
          case atStart => exact ⟨0, Nat.zero_le _, rfl, HR1, HC1, HB1⟩
          case round =>
            obtain ⟨i, hi, rfl, HR, HC, HB3⟩ := hrel
            have hgc9 : gc < wr.heap.size := ((unhid HC).from_ gc rfl).2
            have hbm := (unhid HB3).size
            have hgm9 : gm < wr.heap.size := by obtain ⟨es, h1, _⟩ := unhid HR; exact (h1.from_ gm rfl).2
            by_cases hin : i < n1
            · obtain ⟨Ar, cr, cm, cf, hle, oA, HAX, HPU⟩ := (unhid HR).at hin (rowsM_get CS C hin) (.inl rfl) (fun g h => by rcases h with h | h <;> omega)
              have hrl : (rowOf CS i).length = k := by unfold rowOf; rw [List.length_map, HCL.out]
              obtain ⟨ro, hro⟩ : ∃ ro, rowOf CS i = ro := ⟨_, rfl⟩
              have hrs := rowsM_set CS C hin
              obtain ⟨ck, hck⟩ : ∃ ck, C.getD (i + 1) 0 = ck := ⟨_, rfl⟩
              rw [hck, hro] at hrs
              rw [hro] at hrl oA HPU cm hle
              rw [hrl] at oA HPU cm hle
              have HPU : Hid (∀ (w2 : World) (A2 : Option Addr) (c2 x : Nat), Kept (fun j => at_ Ar = some j) wr w2 → Mny.Own w2 wm.heap.size 5 1 A2 (k + 1) c2 (byt (ro ++ [x])) → (at_ A2 = at_ Ar ∨ ∃ g, at_ A2 = some g ∧ wr.heap.size ≤ g) → x = ck →
                  Rws (w2.setCell ⟨gm, i, none⟩ (.slice A2 (k + 1) c2)) wm.heap.size 35 5 gm n1 (fun j => j = gm ∨ j = gc) (rowsM n1 CS C (i + 1))) := hid (fun w2 A2 c2 x h1 h2 h3 h4 => by
                have := HPU.out w2 A2 c2 x h1 h2 h3
                rwa [h4, hrs] at this)
              have HPU : Hid (∀ (w2 : World) (A2 : Option Addr) (c2 x : Nat), Kept (fun j => at_ Ar = some j) wr w2 → Mny.Own w2 wm.heap.size 5 1 A2 (k + 1) c2 (byt (ro ++ [ck])) → (at_ A2 = at_ Ar ∨ ∃ g, at_ A2 = some g ∧ wr.heap.size ≤ g) →
                  Rws (w2.setCell ⟨gm, i, none⟩ (.slice A2 (k + 1) c2)) wm.heap.size 35 5 gm n1 (fun j => j = gm ∨ j = gc) (rowsM n1 CS C (i + 1))) := hid (fun w2 A2 c2 x h1 h2 h3 => HPU.out w2 A2 c2 ck h1 h2 h3 rfl)
              have hgC := (unhid HC).get1 (i := i + 1) (by omega)
              have hcc : wr.drew.cell? ⟨gc, i + 1, none⟩ = some (.int .u8 (ck : Int)) := by
                refine hgC.1.trans ?_
                rw [List.getElem?_map, List.getElem?_eq_getElem (by rw [HCLn.out]; omega), ← hck, List.getD_eq_getElem?_getD, List.getElem?_eq_getElem (by rw [HCLn.out]; omega)]; rfl
              have hSB : (wr.drew.alloc (.cells #[.int .u8 (ck : Int)] 5)).cell? ⟨gc, i + 1, none⟩ = some (.int .u8 (ck : Int)) := by
                rw [World.cell?_alloc_old _ _ _ (by show gc ≠ wr.heap.size; omega)]; exact hcc
              have cmB : (wr.drew.alloc (.cells #[.int .u8 (ck : Int)] 5)).cell? ⟨gm, i, none⟩ = some (.slice Ar k cr) := by
                rw [World.cell?_alloc_old _ _ _ (by show gm ≠ wr.heap.size; omega)]; exact cm
              have j1 : (0 : Int) ≤ (i : Int) := by omega
              have j2 : (i : Int) < (n1 : Int) := by omega
              have j3 : (0 : Int) ≤ (i : Int) + 1 := by omega
              have j4 : (i : Int) + 1 < 1 + (n1 : Int) := by omega
              have hkb : k ≤ 100 := by have := HN1.out; omega
              have tn : ((i : Int) + 1).toNat = i + 1 := by omega
              have wi : IntKind.i64.wrap ((i : Int) + 1) = (i : Int) + 1 := by simp [IntKind.wrap, IntKind.bits, IntKind.signed]; omega
              clear hrl hro hrs hck hgC hle
              go_wp2_with fail
              refine wp_region_held_drew (S := fun w' => w'.cell? ⟨gc, i + 1, none⟩ = some (.int .u8 (ck : Int))) (by kernel_rfl) hcc (fun hS => ?_)
              refine wpAnyH_take (i := 0) (v := .slice (some ⟨gm, 0, none⟩) n1 n1) rfl (by kernel_rfl) (by kernel_rfl) (by kernel_rfl) (fun _ _ _ h => h) (yields_of rfl (fun w => by go_simp)) hS ?_
              simp only [Act.put, List.setIfInBounds_toArray]
              refine wpAnyH_take (i := 1) (v := .int .i64 (i : Int)) rfl (by kernel_rfl) (by kernel_rfl) (by kernel_rfl) (fun _ _ _ h => h) (yields_of rfl (fun w => by go_simp)) hS ?_
              simp only [Act.put]
              refine wpAnyH_take (i := 2) (v := .slice (some ⟨gm, 0, none⟩) n1 n1) rfl (by kernel_rfl) (by kernel_rfl) (by kernel_rfl) (fun _ _ _ h => h) (yields_of rfl (fun w => by go_simp)) hS ?_
              simp only [Act.put]
              refine wpAnyH_take (i := 3) (v := .int .i64 (i : Int)) rfl (by kernel_rfl) (by kernel_rfl) (by kernel_rfl) (fun _ _ _ h => h) (yields_of rfl (fun w => by go_simp)) hS ?_
              simp only [Act.put]
              refine wpAnyH_take (i := 4) (v := .pointer (some ⟨gm, i, none⟩)) rfl (by kernel_rfl) (by kernel_rfl) (by kernel_rfl) (fun _ _ _ h => h) (yields_of rfl (fun w => by go_simp)) hS ?_
              simp only [Act.put]
              refine wpAnyH_take (i := 6) (v := .slice (some ⟨gc, 0, none⟩) (1 + n1) (1 + n1)) rfl (by kernel_rfl) (by kernel_rfl) (by kernel_rfl) (fun _ _ _ h => h) (yields_of rfl (fun w => by go_simp)) hS ?_
              simp only [Act.put]
              refine wpAnyH_take (i := 7) (v := .int .i64 (i : Int)) rfl (by kernel_rfl) (by kernel_rfl) (by kernel_rfl) (fun _ _ _ h => h) (yields_of rfl (fun w => by go_simp)) hS ?_
              simp only [Act.put]
              refine wpAnyH_take (i := 8) (v := .int .i64 ((i : Int) + 1)) rfl (by kernel_rfl) (by kernel_rfl) (by kernel_rfl) (fun _ _ _ h => h) (yields_of rfl (fun w => by go_simp)) hS ?_
              simp only [Act.put]
              refine wpAnyH_take (i := 9) (v := .pointer (some ⟨gc, i + 1, none⟩)) rfl (by kernel_rfl) (by kernel_rfl) (by kernel_rfl) (fun _ _ _ h => h) (yields_of rfl (fun w => by go_simp)) hS ?_
              simp only [Act.put]
              refine wpAnyH_take (i := 10) (v := .int .u8 (ck : Int)) rfl (by kernel_rfl) (by kernel_rfl) (by kernel_rfl) (fun _ _ _ h => h) (.inl ⟨rfl, fun w h => by go_simp⟩) hS ?_
              simp only [Act.put]
              refine wpAnyH_ready (rs := [5, 11]) (by kernel_rfl) (by simp) ?_
              refine AllReadyH.cons (o := _) rfl (fun K hK => ?_) (AllReadyH.cons (o := _) rfl (fun K hK => ?_) AllReadyH.nil)
              · go_simp
                refine hK.out _ _ hS (fun _ => ?_)
                refine wpAnyH_ready (rs := [11]) (by kernel_rfl) (by simp) ?_
                refine AllReadyH.cons (o := _) rfl (fun K hK => ?_) AllReadyH.nil
                go_simp
                refine hK.out _ _ hSB (fun _ => ?_)
                refine wpAnyH_ready (rs := [12]) (by kernel_rfl) (by simp) ?_
                refine AllReadyH.cons (o := _) rfl (fun K hK => ?_) AllReadyH.nil
                rw [if_pos (by rfl)]
                refine app_wp bytS (.tmp 102) (.tmp 108) rfl rfl (oA.drew.alloc _) rfl (Row.lit_at wr.drew _ _ 1 _ (byt [ck]) rfl rfl rfl) (byt_one _) (by simp [maxLen]; omega) (by omega) (by simp; omega) ?_
                intro A2 c2 wq2 o2 g2 l2
                have kq : Kept (fun j => at_ Ar = some j) wr wq2 := (((Kept.refl (fun j => at_ Ar = some j) wr).drew).alloc _).trans (Kept.of_grown g2) (fun j _ h => h)
                rw [← byt_append] at o2
                have cq : wq2.cell? ⟨gc, i + 1, none⟩ = some (.int .u8 (ck : Int)) := by
                  rw [World.cell?_of_block (kq.block gc hgc9 (fun h => HAX.out gc h (.inr rfl)))]; exact hcc
                have cmq := (kq.block gm hgm9 (fun h => HAX.out gm h (.inl rfl)))
                have cmc : wq2.cell? ⟨gm, i, none⟩ = some (.slice Ar k cr) := by rw [World.cell?_of_block cmq]; exact cm
                have cmf : wq2.frozen? ⟨gm, i, none⟩ = false := by rw [World.frozen?_of_block cmq]; exact cf
                have hpush := HPU.out wq2 A2 c2 ck kq o2 (by rcases l2 with h | h; exact .inl h; exact .inr ⟨_, h, by simp⟩)
                refine hK.out _ _ cq (fun hS5 => ?_)
                refine wpAnyH_take (i := 13) (v := .pointer (some ⟨gm, i, none⟩)) rfl (by kernel_rfl) (by kernel_rfl) (by kernel_rfl) (fun _ _ _ h => h) (yields_of rfl (fun w => by go_simp)) hS5 ?_
                simp only [Act.put]
                refine wpAnyH_ready (rs := [14]) (by kernel_rfl) (by simp) ?_
                refine AllReadyH.cons (o := _) rfl (fun K hK => ?_) AllReadyH.nil
                have HRn := hid hpush
                have cq2 : (wq2.setCell ⟨gm, i, none⟩ (.slice A2 (k + 1) c2)).cell? ⟨gc, i + 1, none⟩ = some (.int .u8 (ck : Int)) := by
                  rw [World.cell?_of_block (Below.heap_setCell _ _ _ _ (by show gc ≠ gm; omega))]; exact cq
                have HCn : Hid (Mny.Own (wq2.setCell ⟨gm, i, none⟩ (.slice A2 (k + 1) c2)) wp.heap.size 5 1 (some ⟨gc, 0, none⟩) (1 + n1) (1 + n1) (byt C)) := hid (((unhid HC).kept kq (fun g hg h => HAX.out g h (.inr (Option.some.inj hg).symm))).keep fun q hq => Below.heap_setCell _ _ _ _ (by have e9 : gc = q := Option.some.inj hq; show q ≠ gm; omega))
                have HBn : Hid (Below wm.heap.size wm (wq2.setCell ⟨gm, i, none⟩ (.slice A2 (k + 1) c2))) := hid (((unhid HB3).trans (kq.below hbm (fun j hj h => by have := (oA.from_ j h).1; omega))).setCell (p := ⟨gm, i, none⟩) hgmB _)
                go_simp
                refine hK.out _ _ cq2 (fun hS6 => ?_)
                refine wpAnyH_done (by kernel_rfl) ?_ _
                clear hS hSB hS5 hS6 cq cq2 cmq cmc cmf hpush o2 g2 l2 kq
                go_wp2_with fail
                go_roundw
                case rel => exact ⟨i + 1, by omega, by go_num, HRn, HCn, HBn⟩
                case measure => simp [intOf]; omega
              · go_simp
                refine hK.out _ _ hSB (fun _ => ?_)
                refine wpAnyH_ready (rs := [5]) (by kernel_rfl) (by simp) ?_
                refine AllReadyH.cons (o := _) rfl (fun K hK => ?_) AllReadyH.nil
                have cm2 := cmB
                go_simp
                refine hK.out _ _ hSB (fun _ => ?_)
                refine wpAnyH_ready (rs := [12]) (by kernel_rfl) (by simp) ?_
                refine AllReadyH.cons (o := _) rfl (fun K hK => ?_) AllReadyH.nil
                rw [if_pos (by rfl)]
                refine app_wp bytS (.tmp 102) (.tmp 108) rfl rfl (oA.drew.alloc _) rfl (Row.lit_at wr.drew _ _ 1 _ (byt [ck]) rfl rfl rfl) (byt_one _) (by simp [maxLen]; omega) (by omega) (by simp; omega) ?_
                intro A2 c2 wq2 o2 g2 l2
                have kq : Kept (fun j => at_ Ar = some j) wr wq2 := (((Kept.refl (fun j => at_ Ar = some j) wr).drew).alloc _).trans (Kept.of_grown g2) (fun j _ h => h)
                rw [← byt_append] at o2
                have cq : wq2.cell? ⟨gc, i + 1, none⟩ = some (.int .u8 (ck : Int)) := by
                  rw [World.cell?_of_block (kq.block gc hgc9 (fun h => HAX.out gc h (.inr rfl)))]; exact hcc
                have cmq := (kq.block gm hgm9 (fun h => HAX.out gm h (.inl rfl)))
                have cmc : wq2.cell? ⟨gm, i, none⟩ = some (.slice Ar k cr) := by rw [World.cell?_of_block cmq]; exact cm
                have cmf : wq2.frozen? ⟨gm, i, none⟩ = false := by rw [World.frozen?_of_block cmq]; exact cf
                have hpush := HPU.out wq2 A2 c2 ck kq o2 (by rcases l2 with h | h; exact .inl h; exact .inr ⟨_, h, by simp⟩)
                refine hK.out _ _ cq (fun hS5 => ?_)
                refine wpAnyH_take (i := 13) (v := .pointer (some ⟨gm, i, none⟩)) rfl (by kernel_rfl) (by kernel_rfl) (by kernel_rfl) (fun _ _ _ h => h) (yields_of rfl (fun w => by go_simp)) hS5 ?_
                simp only [Act.put]
                refine wpAnyH_ready (rs := [14]) (by kernel_rfl) (by simp) ?_
                refine AllReadyH.cons (o := _) rfl (fun K hK => ?_) AllReadyH.nil
                have HRn := hid hpush
                have cq2 : (wq2.setCell ⟨gm, i, none⟩ (.slice A2 (k + 1) c2)).cell? ⟨gc, i + 1, none⟩ = some (.int .u8 (ck : Int)) := by
                  rw [World.cell?_of_block (Below.heap_setCell _ _ _ _ (by show gc ≠ gm; omega))]; exact cq
                have HCn : Hid (Mny.Own (wq2.setCell ⟨gm, i, none⟩ (.slice A2 (k + 1) c2)) wp.heap.size 5 1 (some ⟨gc, 0, none⟩) (1 + n1) (1 + n1) (byt C)) := hid (((unhid HC).kept kq (fun g hg h => HAX.out g h (.inr (Option.some.inj hg).symm))).keep fun q hq => Below.heap_setCell _ _ _ _ (by have e9 : gc = q := Option.some.inj hq; show q ≠ gm; omega))
                have HBn : Hid (Below wm.heap.size wm (wq2.setCell ⟨gm, i, none⟩ (.slice A2 (k + 1) c2))) := hid (((unhid HB3).trans (kq.below hbm (fun j hj h => by have := (oA.from_ j h).1; omega))).setCell (p := ⟨gm, i, none⟩) hgmB _)
                go_simp
                refine hK.out _ _ cq2 (fun hS6 => ?_)
                refine wpAnyH_done (by kernel_rfl) ?_ _
                clear hS hSB hS5 hS6 cq cq2 cmq cmc cmf hpush o2 g2 l2 kq
                go_wp2_with fail
                go_roundw
                case rel => exact ⟨i + 1, by omega, by go_num, HRn, HCn, HBn⟩
                case measure => simp [intOf]; omega
            · have hin2 : i = n1 := by omega
              have j2 : ¬ (i : Int) < (n1 : Int) := by omega
              rw [hin2, rowsM_all] at HR
              have HRn := hid ((unhid HR).weak (X' := fun j => j = gm) (fun g _ h => .inl h))
              have HCLm : Hid ((CS ++ [C]).length = k + 1) := hid (by rw [List.length_append, HCL.out]; rfl)
              have HTHn : Hid (∀ j C', (CS ++ [C])[j]? = some C' → Thr (0 :: L.map (·.1)) (sec.getD j 0 :: L.map fun p => p.2.getD j 0) C' (1 + n1)) := hid fun j C' h => by
                by_cases hjk : j < k
                · rw [List.getElem?_append_left (by rw [HCL.out]; exact hjk)] at h; exact HTH.out j C' h
                · have hjl := (List.getElem?_eq_some_iff.1 h).1
                  rw [List.length_append, HCL.out] at hjl
                  have hjk2 : j = k := by simp at hjl; omega
                  rw [hjk2, List.getElem?_append_right (by rw [HCL.out]; exact Nat.le_refl _), HCL.out, Nat.sub_self] at h
                  simp only [List.getElem?_cons_zero, Option.some.injEq] at h
                  rw [← h, hjk2, HSG.out]; exact HTHC.out
              have HC8n : Hid (∀ C' ∈ CS ++ [C], By8s C') := hid fun C' h => by
                rcases List.mem_append.1 h with h | h
                · exact HC8.out C' h
                · rw [List.mem_singleton] at h; rw [h]; exact HC8'.out
              clear HR HC hin2 HTH HC8 HRW
              go_wp2_with fail
              go_roundw
              case rel => exact ⟨k + 1, CS ++ [C], by omega, by go_num, HCLm, HTHn, HC8n, HRn, HB3⟩
              case measure => simp [intOf]; omega
    · have hkm2 : m0 = k := by omega
      subst hkm2
      have i2 : ¬ (m0 : Int) < (m0 : Int) := by omega
      have hEr := hid ((unhid Em).trans ((unhid HB).mono hwm))
      have hwr := (unhid hEr).size
      have SP : Calls Try.prog 17 #[.slice A0 m0 c0, .int .i64 20, .slice (some ⟨gm, 0, none⟩) n1 n1] wr (SplitP (splitN sec (rowsN n1 CS) 20) wr) :=
        split_yes sec (rowsN n1 CS) A0 (some ⟨gm, 0, none⟩) m0 c0 n1 n1 wr.heap.size 20 wr (((unhid R0).below (unhid hEr)).more hwr) (unhid HRW).mat (Nat.le_refl _) S8.out
          (by
            intro m hm
            obtain ⟨q, hq, rfl⟩ := List.mem_map.1 hm
            intro z hz
            obtain ⟨C, hC, rfl⟩ := List.mem_map.1 hz
            exact getD_by (HC8.out C hC) _) (by decide) (by decide) HN1.out.2.2 (by have := HN1.out; omega)
          (by
            intro m hm
            obtain ⟨q, hq, rfl⟩ := List.mem_map.1 hm
            unfold rowOf; rw [List.length_map, HCL.out])
      have HSP := hid SP
      clear SP
      go_wp2_with fail
      refine (unhid HSP).mono ?_
      rintro e w9 ⟨AS, cS, rfl, sS, hb9⟩
      have hyl := splitN_len sec (rowsN n1 CS) 20
      have Y9 := ShR.of_shs sS
      rw [hyl] at Y9 ⊢
      have Y9 := hid Y9
      have E9 := hid ((unhid hEr).trans (hb9.mono hwr))
      have hw9 := (unhid E9).size
      clear sS hb9 HSP hyl HB HRW
      go_wp2_with fail
      go_loopw [15] (fun v15 wr => ∃ i : Nat, i ≤ n1 ∧ v15 = .int .i64 i ∧ Hid (Below w9.heap.size w9 wr)) (fun v15 _ => n1 - (intOf v15).toNat)
      case atStart => exact ⟨0, Nat.zero_le _, rfl, Below.refl _ _⟩
      case round =>
        obtain ⟨i, hi, rfl, HB4⟩ := hrel
        by_cases hin : i < n1
        · obtain ⟨p, hp⟩ : ∃ p, L[i]? = some p := ⟨_, List.getElem?_eq_getElem (by rw [HLL.out]; exact hin)⟩
          obtain ⟨x, d⟩ := p
          obtain ⟨hx1, hx2, hdl, hd8⟩ := FL.out _ (List.mem_of_getElem? hp)
          dsimp only at hx1 hx2 hdl hd8
          obtain ⟨y, rfl⟩ : ∃ y, x = y + 1 := ⟨x - 1, by omega⟩
          obtain ⟨g', o', Ad, cd, ea, hg', q0, q1, hle, hrow⟩ := (unhid HL).at hin hp
          injection ea with ea
          injection ea with ea1 ea2
          subst ea1 ea2
          have hhd := hides sec L n1 m0 HLL.out HSL.out CS HCL.out HTH.out i (y + 1) d hp hdl
          obtain ⟨gS, oS, Ae, ce, rfl, hgS, q2, q3, hle2, hrow2⟩ := (unhid Y9).at (show y < 20 by omega) (x := y + 1) (d := datN sec (rowsN n1 CS) (y + 1) sec.length) (by unfold splitN; rw [List.getElem?_map, List.getElem?_range (show y < 20 by omega)]; rfl)
          rw [HSL.out, hhd, hdl] at q3 hrow2
          rw [hdl] at q1 hrow
          rw [show ((y + 1 : Nat) : Int) = (y : Int) + 1 by omega] at q0
          have C0 : Hid (∀ W, Below w9.heap.size w9 W → W.cell? ⟨g1, o1 + i * 2, none⟩ = some (.int .u8 ((y : Int) + 1)) ∧ W.cell? ⟨g1, o1 + i * 2 + 1, none⟩ = some (.slice Ad m0 cd) ∧ W.cell? ⟨gS, oS + y * 2 + 1, none⟩ = some (.slice Ae m0 ce)) := hid fun W hW => by
            have h := (unhid E9).trans (hW.mono hw9)
            exact ⟨(h.cell (p := ⟨g1, o1 + i * 2, none⟩) hg1).trans q0, (h.cell (p := ⟨g1, o1 + i * 2 + 1, none⟩) hg1).trans q1, (hW.cell (p := ⟨gS, oS + y * 2 + 1, none⟩) hgS).trans q3⟩
          have HW1 := hid hrow; have HW2 := hid hrow2
          have CB : Hid (∀ W, Below w9.heap.size w9 W → Calls Try.prog 18 #[.slice Ae m0 ce, .slice Ad m0 cd] W fun e W' => e = .returned (.bool true) ∧ Below w9.heap.size w9 W') := hid fun W hW => by
            have ra : Row W w9.heap.size 1 Ae m0 ((d.map fun x : Nat => (x : Int)).map (Value.int .u8)) := by rw [List.map_map]; exact (unhid HW2).below hW
            have rb : Row W w.heap.size 1 Ad m0 ((d.map fun x : Nat => (x : Int)).map (Value.int .u8)) := by rw [List.map_map]; exact (unhid HW1).below ((unhid E9).trans (hW.mono hw9))
            refine (bytes_any _ _ _ _ _ _ _ _ _ _ _ ra rb (by omega) (by omega)).mono ?_
            rintro e W' ⟨kk, rfl, rfl⟩
            exact ⟨by simp, hW.drewN kk⟩
          have j1 : (0 : Int) ≤ (i : Int) := by omega
          have j2 : (i : Int) < (n1 : Int) := by omega
          have j3 : (0 : Int) ≤ (y : Int) := by omega
          have j4 : (y : Int) < 20 := by omega
          have wy1 : IntKind.i64.wrap ((y : Int) + 1) = (y : Int) + 1 := by simp [IntKind.wrap, IntKind.bits, IntKind.signed]; omega
          have wy2 : IntKind.i64.wrap (y : Int) = (y : Int) := by simp [IntKind.wrap, IntKind.bits, IntKind.signed]; omega
          clear hp hx1 hx2 hdl hd8 q0 q1 q2 q3 hle hle2 hrow hrow2 hhd
          go_wp2_with fail
          refine wp_region_held_drew (S := fun w' => Below w9.heap.size w9 w') (by kernel_rfl) (unhid HB4).drew (fun hS => ?_)
          refine wpAnyH_take (i := 0) (v := .slice (some ⟨gS, oS, none⟩) 20 cS) rfl (by kernel_rfl) (by kernel_rfl) (by kernel_rfl) (fun _ _ _ h => h) (yields_of rfl (fun w => by go_simp)) hS ?_
          simp only [Act.put, List.setIfInBounds_toArray]
          refine wpAnyH_take (i := 1) (v := .slice (some ⟨g1, o1, none⟩) n1 c1) rfl (by kernel_rfl) (by kernel_rfl) (by kernel_rfl) (fun _ _ _ h => h) (yields_of rfl (fun w => by go_simp)) hS ?_
          simp only [Act.put]
          refine wpAnyH_take (i := 2) (v := .int .i64 (i : Int)) rfl (by kernel_rfl) (by kernel_rfl) (by kernel_rfl) (fun _ _ _ h => h) (yields_of rfl (fun w => by go_simp)) hS ?_
          simp only [Act.put]
          refine wpAnyH_take (i := 3) (v := .pointer (some ⟨g1, o1 + i * 2, none⟩)) rfl (by kernel_rfl) (by kernel_rfl) (by kernel_rfl) (fun _ _ _ h => h) (yields_of rfl (fun w => by go_simp)) hS ?_
          simp only [Act.put]
          refine wpAnyH_take (i := 4) (v := .pointer (some ⟨g1, o1 + i * 2, none⟩)) rfl (by kernel_rfl) (by kernel_rfl) (by kernel_rfl) (fun _ _ _ h => h) (yields_of rfl (fun w => by go_simp)) hS ?_
          simp only [Act.put]
          refine wpAnyH_take (i := 5) (v := .int .u8 ((y : Int) + 1)) rfl (by kernel_rfl) (by kernel_rfl) (by kernel_rfl) (fun _ _ _ h => h) (.inl ⟨rfl, fun w h => by have e := (C0.out w h).1; go_simp⟩) hS ?_
          simp only [Act.put]
          refine wpAnyH_take (i := 6) (v := .int .i64 ((y : Int) + 1)) rfl (by kernel_rfl) (by kernel_rfl) (by kernel_rfl) (fun _ _ _ h => h) (yields_of rfl (fun w => by go_simp)) hS ?_
          simp only [Act.put]
          refine wpAnyH_take (i := 7) (v := .int .i64 (y : Int)) rfl (by kernel_rfl) (by kernel_rfl) (by kernel_rfl) (fun _ _ _ h => h) (yields_of rfl (fun w => by go_simp)) hS ?_
          simp only [Act.put]
          refine wpAnyH_take (i := 8) (v := .pointer (some ⟨gS, oS + y * 2, none⟩)) rfl (by kernel_rfl) (by kernel_rfl) (by kernel_rfl) (fun _ _ _ h => h) (yields_of rfl (fun w => by go_simp)) hS ?_
          simp only [Act.put]
          refine wpAnyH_take (i := 9) (v := .pointer (some ⟨gS, oS + y * 2 + 1, none⟩)) rfl (by kernel_rfl) (by kernel_rfl) (by kernel_rfl) (fun _ _ _ h => h) (yields_of rfl (fun w => by go_simp)) hS ?_
          simp only [Act.put]
          refine wpAnyH_take (i := 10) (v := .slice Ae m0 ce) rfl (by kernel_rfl) (by kernel_rfl) (by kernel_rfl) (fun _ _ _ h => h) (.inl ⟨rfl, fun w h => by have e := (C0.out w h).2.2; go_simp⟩) hS ?_
          simp only [Act.put]
          refine wpAnyH_take (i := 11) (v := .slice (some ⟨g1, o1, none⟩) n1 c1) rfl (by kernel_rfl) (by kernel_rfl) (by kernel_rfl) (fun _ _ _ h => h) (yields_of rfl (fun w => by go_simp)) hS ?_
          simp only [Act.put]
          refine wpAnyH_take (i := 12) (v := .int .i64 (i : Int)) rfl (by kernel_rfl) (by kernel_rfl) (by kernel_rfl) (fun _ _ _ h => h) (yields_of rfl (fun w => by go_simp)) hS ?_
          simp only [Act.put]
          refine wpAnyH_take (i := 13) (v := .pointer (some ⟨g1, o1 + i * 2, none⟩)) rfl (by kernel_rfl) (by kernel_rfl) (by kernel_rfl) (fun _ _ _ h => h) (yields_of rfl (fun w => by go_simp)) hS ?_
          simp only [Act.put]
          refine wpAnyH_take (i := 14) (v := .pointer (some ⟨g1, o1 + i * 2 + 1, none⟩)) rfl (by kernel_rfl) (by kernel_rfl) (by kernel_rfl) (fun _ _ _ h => h) (yields_of rfl (fun w => by go_simp)) hS ?_
          simp only [Act.put]
          refine wpAnyH_take (i := 15) (v := .slice Ad m0 cd) rfl (by kernel_rfl) (by kernel_rfl) (by kernel_rfl) (fun _ _ _ h => h) (.inl ⟨rfl, fun w h => by have e := (C0.out w h).2.1; go_simp⟩) hS ?_
          simp only [Act.put]
          refine wpAnyH_ready (rs := [16]) (by kernel_rfl) (by simp) ?_
          refine AllReadyH.cons (o := _) rfl (fun K hK => ?_) AllReadyH.nil
          go_simp
          refine ((unhid CB) _ hS).mono ?_
          rintro e wq1 ⟨rfl, hb1⟩
          go_wp2_with fail
          refine hK.out _ _ hb1 (fun hS2 => ?_)
          refine wpAnyH_take (i := 17) (v := .bool true) rfl (by kernel_rfl) (by kernel_rfl) (by kernel_rfl) (fun _ _ _ h => h) (yields_of rfl (fun w => by go_simp)) hS2 ?_
          simp only [Act.put]
          refine wpAnyH_done (by kernel_rfl) ?_ _
          go_simp
          have HB5 := hid hb1
          clear hS hS2 hb1 CB
          go_wp2_with fail
          go_roundw
          case rel => exact ⟨i + 1, by omega, by go_num, HB5⟩
          case measure => simp [intOf]; omega
        · have j2 : ¬ (i : Int) < (n1 : Int) := by omega
          have E10 := hid ((unhid E9).trans ((unhid HB4).mono hw9))
          go_wp2_with fail
          go_ret
          exact ⟨rfl, unhid E10⟩
end Go.Proofs.Ytilaipdpbcfhkaa

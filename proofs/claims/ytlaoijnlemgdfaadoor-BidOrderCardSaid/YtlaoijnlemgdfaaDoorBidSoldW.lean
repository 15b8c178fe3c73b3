/- The walks of a sale: the law's own 'sold' and 'fact'. -/
import Derived.Test.YtlaoijnlemgdfaaDoorBidAwardW
namespace Go.Proofs.YtlaoijnlemgdfaaDoor
set_option linter.unusedVariables false
open Go.RowKit Go.Mny
theorem award_no (A0 A1 : Option Addr) (n0 c0 n1 c1 : Nat) (least : Int) (w : World) (r : Int) (h : (least < 0 ∧ r = 2) ∨ (0 ≤ least ∧ (100 < n0 ∨ 100 < n1) ∧ r = 4)) :
    Calls Tryd.prog 26 #[.slice A0 n0 c0, .slice A1 n1 c1, .int .i64 least] w fun e w' => e = .returned (.tuple #[.int .i64 0, .int .i64 0, .iface 38 (.int .i64 r)]) ∧ w = w' := by
  rcases h with ⟨h1, rfl⟩ | ⟨h1, h2, rfl⟩
  · go_enter Tryd.func26, Tryd.ntmps26
    go_wp2_with fail
    go_ret3
    exact ⟨rfl, rfl⟩
  · by_cases h3 : (100 : Int) < (n0 : Int)
    · clear h2
      go_enter Tryd.func26, Tryd.ntmps26
      go_wp2_with fail
      go_ret3
      exact ⟨rfl, rfl⟩
    · have h4 : (100 : Int) < (n1 : Int) := by omega
      clear h2
      go_enter Tryd.func26, Tryd.ntmps26
      go_wp2_with fail
      go_ret3
      exact ⟨rfl, rfl⟩
theorem cnts_acc (Vs : List (List Int)) : ∀ (bs cs : List Bd), (∀ b ∈ bs, okB Vs b) → (bs.map (·.who)).Nodup → (∀ b ∈ bs, ∀ c ∈ cs, c.who ≠ b.who) → bs.foldl (cstep Vs) cs = cs ++ bs
  | [], cs, _, _, _ => by simp
  | b :: bs, cs, h1, h2, h3 => by
    rw [List.map_cons, List.nodup_cons] at h2
    have hs : cstep Vs cs b = cs ++ [b] := by
      unfold cstep
      rw [if_pos ⟨h1 b (by simp), fun ⟨c, hc, e⟩ => h3 b (by simp) c hc e⟩]
    rw [List.foldl_cons, hs, cnts_acc Vs bs (cs ++ [b]) (fun x hx => h1 x (by simp [hx])) h2.2 (fun x hx c hc => ?_)]
    · simp
    · rcases List.mem_append.1 hc with hc | hc
      · exact h3 x (by simp [hx]) c hc
      · rw [List.mem_singleton] at hc
        rw [hc]
        intro e
        exact h2.1 (by rw [e]; exact List.mem_map.2 ⟨x, hx, rfl⟩)
theorem cnts_all {Vs : List (List Int)} {bs : List Bd} (h1 : ∀ b ∈ bs, okB Vs b) (h2 : (bs.map (·.who)).Nodup) : cnts Vs bs = bs := by
  unfold cnts
  rw [cnts_acc Vs bs [] h1 h2 (fun b _ c hc => by cases hc)]; rfl
/-- who buys, and what is paid: M tells who bids what -/
def Aw (M : Int → Int → Prop) (least w p : Int) : Prop :=
  ((∀ u a, M u a → a < least) ∧ w = -1 ∧ p = 0) ∨
  (∃ a, M w a ∧ least ≤ a ∧ (∀ u c, M u c → u ≠ w → c < a ∨ (c = a ∧ w < u)) ∧ least ≤ p ∧ (∀ u c, M u c → u ≠ w → c ≤ p) ∧ (p = least ∨ ∃ u c, M u c ∧ u ≠ w ∧ c = p))
theorem Aw.unique {M : Int → Int → Prop} {least w p x q : Int} (hf : ∀ u a b, M u a → M u b → a = b) (h : Aw M least w p) (k : Aw M least x q) : w = x ∧ p = q := by
  rcases h with ⟨h1, rfl, rfl⟩ | ⟨a, h1, h2, h3, h4, h5, h6⟩
  · rcases k with ⟨_, rfl, rfl⟩ | ⟨b, k1, k2, _⟩
    · exact ⟨rfl, rfl⟩
    · have := h1 x b k1; omega
  · rcases k with ⟨k1, rfl, rfl⟩ | ⟨b, k1, k2, k3, k4, k5, k6⟩
    · have := k1 w a h1; omega
    · have hwx : w = x := by
        by_cases e : w = x
        · exact e
        · have e1 := h3 x b k1 (fun h => e h.symm)
          have e2 := k3 w a h1 e
          omega
      subst hwx
      refine ⟨rfl, ?_⟩
      have e1 : p ≤ q := by
        rcases h6 with rfl | ⟨u, c, g1, g2, rfl⟩
        · exact k4
        · exact k5 u _ g1 g2
      have e2 : q ≤ p := by
        rcases k6 with rfl | ⟨u, c, g1, g2, rfl⟩
        · exact h4
        · exact h5 u _ g1 g2
      omega
theorem Aw.congr {M M' : Int → Int → Prop} {least w p : Int} (hM : ∀ u a, M u a ↔ M' u a) (h : Aw M least w p) : Aw M' least w p := by
  have : M = M' := by funext u a; exact propext (hM u a)
  rwa [this] at h
/-- of bids in order: the first one and the second one's price -/
theorem aw_sorted {cs : List Bd} (least : Int) (hs : cs.Pairwise (fun x y => ¬ ltB y x)) (hn : (cs.map (·.who)).Nodup) : Aw (fun u a => ∃ c ∈ cs, c.who = u ∧ c.amt = a) least (awardN cs least).1 (awardN cs least).2 := by
  cases cs with
  | nil => exact .inl ⟨fun u a ⟨c, hc, _⟩ => (by cases hc), rfl, rfl⟩
  | cons b r =>
    rw [List.pairwise_cons] at hs
    rw [List.map_cons, List.nodup_cons] at hn
    have hb : ∀ c ∈ r, c.amt ≤ b.amt := fun c hc => by have := hs.1 c hc; unfold ltB at this; omega
    unfold awardN
    simp only
    by_cases hlt : b.amt < least
    · rw [if_pos hlt]
      refine .inl ⟨fun u a ⟨c, hc, _, ha⟩ => ?_, rfl, rfl⟩
      rcases List.mem_cons.1 hc with rfl | hc
      · omega
      · have := hb c hc; omega
    · rw [if_neg hlt]
      have hne : ∀ c ∈ r, c.who ≠ b.who := fun c hc e => hn.1 (by rw [← e]; exact List.mem_map.2 ⟨c, hc, rfl⟩)
      refine .inr ⟨b.amt, ⟨b, by simp, rfl, rfl⟩, by omega, fun u c ⟨d, hd, hu, hc⟩ hne' => ?_, ?_⟩
      · rcases List.mem_cons.1 hd with rfl | hd
        · exact absurd hu.symm hne'
        · have h1 := hs.1 d hd
          have h2 := hne d hd
          unfold ltB at h1
          show c < b.amt ∨ (c = b.amt ∧ b.who < u)
          omega
      · cases r with
        | nil =>
          refine ⟨Int.le_refl _, fun u c ⟨d, hd, hu, hc⟩ hne' => ?_, .inl rfl⟩
          rw [List.mem_singleton] at hd
          subst hd
          exact absurd hu.symm hne'
        | cons d r =>
          have hd2 : ∀ c ∈ r, c.amt ≤ d.amt := fun c hc => by
            have := (List.pairwise_cons.1 hs.2).1 c hc; unfold ltB at this; omega
          show least ≤ max least d.amt ∧ _
          refine ⟨by omega, fun u c ⟨e, he, hu, hc⟩ hne' => ?_, ?_⟩
          · show c ≤ max least d.amt
            rcases List.mem_cons.1 he with rfl | he
            · exact absurd hu.symm hne'
            · rcases List.mem_cons.1 he with rfl | he
              · omega
              · have := hd2 e he; omega
          · show max least d.amt = least ∨ _
            by_cases h : d.amt ≤ least
            · exact .inl (by omega)
            · exact .inr ⟨d.who, d.amt, ⟨d, by simp, rfl, rfl⟩, hne d (by simp), by show d.amt = max least d.amt; omega⟩
/-- the bids of amounts -/
def bidAt (l : List Int) (i : Nat) : Bd := ⟨i, l.getD i 0, List.replicate 32 0⟩
def bidsN (l : List Int) (i : Nat) : List Bd := (List.range i).map (bidAt l)
theorem bidsN_succ (l : List Int) (i : Nat) : bidsN l (i + 1) = bidsN l i ++ [bidAt l i] := by simp [bidsN, List.range_succ]
def vowsN (l : List Int) (i : Nat) : List (List Int) := (List.range i).map fun j => up (vowB (bidAt l j))
theorem vowsN_succ (l : List Int) (i : Nat) : vowsN l (i + 1) = vowsN l i ++ [up (vowB (bidAt l i))] := by simp [vowsN, List.range_succ]
/-- who bids what of amounts -/
def Ml (l : List Int) (u a : Int) : Prop := ∃ i : Nat, l[i]? = some a ∧ u = (i : Int)
theorem Ml.fun {l : List Int} (u a b : Int) (h : Ml l u a) (k : Ml l u b) : a = b := by
  obtain ⟨i, h1, h2⟩ := h
  obtain ⟨j, k1, k2⟩ := k
  have : i = j := by omega
  subst this
  rw [h1] at k1
  exact Option.some.inj k1
def bad (l : List Int) (least : Int) : Prop := (∃ a ∈ l, a < 0) ∨ least < 0
def SoldP (l : List Int) (least : Int) (w : World) (e : Ending) (w' : World) : Prop :=
  ((bad l least ∧ e = .returned (.tuple #[.int .i64 0, .int .i64 0, .bool false])) ∨ (¬ bad l least ∧ ∃ x p, Aw (Ml l) least x p ∧ e = .returned (.tuple #[.int .i64 x, .int .i64 p, .bool true]))) ∧ Below w.heap.size w w'
theorem row_int {w : World} {D n : Nat} {A : Option Addr} {l : List Int} {k : IntKind} (h : Row w D 1 A n (l.map (Value.int k))) {i : Nat} (hi : i < n) :
    ∃ (g o : Nat) (z : Int), A = some ⟨g, o, none⟩ ∧ g < D ∧ l[i]? = some z ∧ w.cell? ⟨g, o + i, none⟩ = some (.int k z) := by
  have hl : l.length = n := by have := h.len; rw [List.length_map] at this; omega
  obtain ⟨g, o, e1, e2, e3⟩ := h.cells (by omega)
  obtain ⟨x, hx⟩ : ∃ x, l[i]? = some x := ⟨_, List.getElem?_eq_getElem (by omega)⟩
  exact ⟨g, o, x, e1, e2, hx, by rw [e3 i (by rw [List.length_map]; omega), List.getElem?_map, hx]; rfl⟩
theorem digsE : Elt Tryd.prog 43 23 32 32 := Elt.of Tryd.underlying43 (.agg (Array.replicate 32 (.int .u8 0))) (by kernel_rfl) (by simp [Value.cells]) (by decide)
set_option maxRecDepth 100000 in
theorem run_build2 (x y : Int) (w : World) : (Instr.build 62 #[(0, .int .i64 x), (1, .int .i64 y)]).run Tryd.prog w = .ok (.agg (bc ⟨x, y, List.replicate 32 0⟩).toArray) w := by
  go_simp
  rfl
theorem build_two {w : World} {ops : Array Oper} {rest : List Oper} {o : Oper} {a : Act} {Q : Exit → Act → World → Prop} (hw : Region.wanted o (yielded ops a.tmps) = true)
    (x y : Operand) (ho : o.op = .build 62 #[(0, x), (1, y)]) {u v : Int} (hx : a.eval x = .int .i64 u) (hy : a.eval y = .int .i64 v)
    (h : wpList Tryd.prog ops Q rest (a.put o.dst (.agg (bc ⟨u, v, List.replicate 32 0⟩).toArray)) w) : wpList Tryd.prog ops Q (o :: rest) a w := by
  refine op_step hw fun K hK => ?_
  have hr := run_build2 u v w
  unfold Oper.wp execOp
  simp only [ho, List.map_toArray, List.map_cons, List.map_nil, hx, hy, Sem.run_bind, Sem.run_pure, Result.andThen_ok, hr]
  exact hK _ _ h
theorem bd_zero {x y : Int} (h0 : 0 ≤ x) (h1 : x ≤ 1000) (hy : (Lit.int .i64 y).wf = true) : BdOk ⟨x, y, List.replicate 32 0⟩ := by
  refine ⟨by simp, fun z hz => ?_, ?_, hy⟩
  · rw [(List.mem_replicate.1 hz).2]; decide
  · obtain ⟨n, rfl⟩ := Int.eq_ofNat_of_zero_le h0
    simp [Lit.wf, IntKind.min, IntKind.max, IntKind.bits, IntKind.signed]
    omega
set_option maxHeartbeats 4000000 in
set_option maxRecDepth 100000 in
theorem sold_any (l : List Int) (least : Int) (A : Option Addr) (n c D : Nat) (w : World) (hA : Row w D 1 A n (l.map (Value.int .i64))) (hw : ∀ z ∈ l, (Lit.int .i64 z).wf = true) (hD : D ≤ w.heap.size) (hn : n ≤ 100) (hL : Laid w) (hr : 1 < w.heap.size) :
    Calls Tryd.prog 24 #[.slice A n c, .int .i64 least] w (SoldP l least w) := by
  have hll : l.length = n := by have := hA.len; rw [List.length_map] at this; omega
  have HA := hid hA; have HW := hid hw; have HL := hid hL; have HLL := hid hll
  clear hA hw hL hll
  go_enter Tryd.func24, Tryd.ntmps24
  go_wp2_with fail
  go_loopw [7, 8, 9] (fun v7 v8 v9 wr => ∃ (i : Nat) (AV AB : Option Addr) (cV cB : Nat), i ≤ n ∧ v9 = .int .i64 i ∧ v7 = .slice AV i cV ∧ v8 = .slice AB i cB ∧ Hid (Own wr w.heap.size 23 32 AV i cV ((vowsN l i).flatten.map (Value.int .u8))) ∧ Hid (Own wr w.heap.size 62 34 AB i cB ((bidsN l i).map bc).flatten) ∧ Hid (∀ g, at_ AV = some g → at_ AB ≠ some g) ∧ Hid (∀ j a, j < i → l[j]? = some a → 0 ≤ a) ∧ Hid (Below w.heap.size w wr)) (fun _ _ v9 _ => n - (intOf v9).toNat)
  case atStart => exact ⟨0, none, none, 0, 0, Nat.zero_le _, rfl, rfl, rfl, Own.none _ _ _ _, Own.none _ _ _ _, hid (fun g h => by cases h), hid (fun j a h => absurd h (Nat.not_lt_zero _)), Below.refl _ _⟩
  case round =>
    obtain ⟨i, AV, AB, cV, cB, hi, rfl, rfl, rfl, HV, HB', HDj, HP, HB⟩ := hrel
    have hsw := (unhid HB).size
    by_cases hin : i < n
    · obtain ⟨g, o, a, rfl, hg, ha, hca⟩ := row_int ((unhid HA).below ((unhid HB).mono hD)) hin
      have haw := HW.out a (List.mem_of_getElem? ha)
      have hag : l.getD i 0 = a := by rw [List.getD_eq_getElem?_getD, ha]; rfl
      have HAI := hid ha; have HAW := hid haw; have HAG := hid hag
      have i1 : (0 : Int) ≤ (i : Int) := by omega
      have i2 : (i : Int) < (n : Int) := by omega
      clear ha haw hag
      obtain ⟨wk, hwk⟩ : ∃ wk : World, wk = wr := ⟨_, rfl⟩
      rw [← hwk] at HV HB' HB hsw hca
      rw [← hwk]
      clear hwk
      obtain ⟨b, hbe⟩ : ∃ b : Bd, b = ⟨(i : Int), a, List.replicate 32 0⟩ := ⟨_, rfl⟩
      have hba : bidAt l i = b := by rw [hbe]; unfold bidAt; rw [HAG.out]
      have hbk : BdOk b := by rw [hbe]; exact bd_zero (by omega) (by omega) HAW.out
      have HBE := hid hbe; have HBA := hid hba; have HBK := hid hbk
      have HLb := hid (bc_len hbk.1)
      clear hba hbk
      go_wp2_with (with_reducible refine halt_op (some 27) (.build _ _) (fun K hK => ?_))
      refine go_on hK ?_; clear hK
      refine build_two rfl (.tmp 22) (.tmp 26) rfl (u := (i : Int)) (v := a) rfl rfl ?_
      rw [← hbe]
      clear hbe hca
      go_wp2_with (with_reducible refine halt_op (some 10) (.alloc _) (fun K hK => ?_))
      refine go_on hK ?_; clear hK
      refine alloc_row bidZ (n := 34) (by simp [Value.cells]) rfl rfl ?_
      intro g10 w2 cur hg10 s2 hcs b2 e2
      go_wp2_with (with_reducible refine halt_op none (.store _ _ _) (fun K hK => ?_))
      refine go_on hK ?_; clear hK
      refine store_mid bidT rfl (.tmp 10) (.tmp 27) rfl (q := 0) (vs := bc b) rfl rfl HLb.out (bc_one b) b2 (by rw [HLb.out, hcs]; exact Nat.le_refl _) ?_
      intro w3 b3 g3
      rw [splice_all (by rw [HLb.out]; exact hcs)] at b3
      have hz3 := g3.size
      have E3' : Below wk.heap.size wk w3 := (e2.mono (show wk.heap.size ≤ g10 by omega)).grown g3 (by omega) (fun q hq => by have e9 : g10 = q := Option.some.inj hq; omega)
      have B3 := hid b3; have E3 := hid E3'
      have h103 : g10 < w3.heap.size := by omega
      have h10k : wk.heap.size ≤ g10 := by omega
      have hsk : wk.heap.size ≤ w3.heap.size := by omega
      clear b2 e2 hg10 s2 hcs b3 g3 E3' hz3
      go_wp2_with (with_reducible refine halt_op (some 29) (.load _ _) (fun K hK => ?_))
      refine go_on hK ?_; clear hK
      refine load_mid bidT rfl (.tmp 10) rfl rfl (Blk.rng (unhid B3)) HLb.out ?_
      have EW3 := hid ((unhid HB).trans ((unhid E3).mono hsw))
      by_cases ha0 : a < 0
      · have hvk : ¬ vowOk b := by rw [HBE.out]; unfold vowOk; simp; omega
        have VN := hid (vow_no b w3 HBK.out hvk)
        unfold bidV at VN
        have hbad : bad l least := .inl ⟨a, List.mem_of_getElem? HAI.out, ha0⟩
        have HBAD := hid hbad
        clear ha0 hvk hbad
        go_wp2_with fail
        refine (unhid VN).mono ?_
        rintro e w4 ⟨rfl, hb4⟩
        have EW4 := hid ((unhid EW3).trans (hb4.mono (unhid EW3).size))
        clear hb4 VN
        go_wp2_with (with_reducible refine halt_op (some 11) (.alloc _) (fun K hK => ?_))
        refine go_on hK ?_; clear hK
        refine alloc_arr digT rfl rfl ?_
        rintro g12 w5 hg12 s5 b5 e5
        go_wp2_with (with_reducible refine halt_op none (.store _ _ _) (fun K hK => ?_))
        refine go_on hK ?_; clear hK
        refine store_arr digT (l := List.replicate 32 0) rfl (.tmp 11) (.tmp 31) rfl rfl rfl (by simp) b5 (by simp [cellsOf]) ?_
        intro w6 b6 g6
        have hs4 := (unhid EW4).size
        have EW6 := hid (((unhid EW4).trans (e5.mono (by omega))).grown g6 (by omega) (fun q hq => by have e9 : g12 = q := Option.some.inj hq; omega))
        clear b5 e5 hg12 s5 b6 g6 hs4
        go_wp2_with fail
        go_ret3
        exact ⟨.inl ⟨unhid HBAD, rfl⟩, unhid EW6⟩
      · have hvk : vowOk b := by rw [HBE.out]; unfold vowOk; simp; omega
        have VY := hid (vow_yes b w3 HBK.out hvk ((unhid HL).below (unhid EW3) hr) (Nat.lt_of_lt_of_le hr (unhid EW3).size))
        unfold bidV at VY
        have HP2 : Hid (∀ j a', j < i + 1 → l[j]? = some a' → 0 ≤ a') := hid fun j a' h h' => by
          by_cases e : j = i
          · rw [e, HAI.out] at h'; injection h' with h'; omega
          · exact HP.out j a' (by omega) h'
        clear ha0 hvk
        go_wp2_with fail
        refine (unhid VY).mono ?_
        rintro e w4 ⟨rfl, hb4⟩
        have B4 := hid ((unhid B3).below hb4 h103)
        have E4 := hid ((unhid E3).trans (hb4.mono hsk))
        have hz4 := hb4.size
        clear hb4 VY B3 E3
        go_wp2_with (with_reducible refine halt_op (some 11) (.alloc _) (fun K hK => ?_))
        refine go_on hK ?_; clear hK
        refine alloc_arr digT rfl rfl ?_
        rintro g12 w5 hg12 s5 b5 e5
        go_wp2_with (with_reducible refine halt_op none (.store _ _ _) (fun K hK => ?_))
        refine go_on hK ?_; clear hK
        refine store_arr digT (l := up (vowB b)) rfl (.tmp 11) (.tmp 31) rfl rfl rfl (sum_len_u _) b5 (by simp [cellsOf]) ?_
        intro w6 b6 g6
        have hz6 := g6.size
        have E46 : Below g12 w4 w6 := e5.grown g6 (by omega) (fun q hq => by have e9 : g12 = q := Option.some.inj hq; omega)
        have B6 := hid ((unhid B4).below E46 (by omega))
        have C6 := hid b6
        have E6 := hid ((unhid E4).trans (E46.mono (show wk.heap.size ≤ g12 by omega)))
        have h106 : g10 < w6.heap.size := by omega
        have hsk6 : wk.heap.size ≤ w6.heap.size := by omega
        have V6 := hid ((unhid HV).below (unhid E6) (Nat.le_refl _)); have O6 := hid ((unhid HB').below (unhid E6) (Nat.le_refl _))
        have EW6 := hid ((unhid HB).trans ((unhid E6).mono hsw))
        have hsw6 := (unhid EW6).size
        have HVA : Hid (∀ g, at_ AV = some g → g < wk.heap.size) := hid fun g h => ((unhid HV).from_ g h).2
        have HBAt : Hid (∀ g, at_ AB = some g → g < wk.heap.size) := hid fun g h => ((unhid HB').from_ g h).2
        clear b5 e5 hg12 s5 b6 g6 hz6 E46 B4 E4 hz4 HV HB'
        go_wp2_with (with_reducible refine halt_op (some 36) (.load _ _) (fun K hK => ?_))
        refine go_on hK ?_; clear hK
        refine load_arr digT rfl (.tmp 11) rfl rfl (unhid C6) (sum_len_u _) ?_
        go_wp2_with (with_reducible refine halt_op (some 37) (.buildSlice _ _ _) (fun K hK => ?_))
        refine go_on hK ?_; clear hK
        refine build1 digsE (by decide) rfl (.tmp 36) rfl (cs := (up (vowB b)).map (Value.int .u8)) rfl (by rw [List.length_map]; exact sum_len_u _) ?_
        intro bl
        go_wp2_with (at_builtin; refine halt_at (fun K hK => ?_))
        refine go_on hK ?_; clear hK
        refine app_step digsE rfl (.tmp 35) (.tmp 37) rfl rfl ((unhid V6).alloc _) rfl (Row.lit_full w6 _ _ 1 32 w6.heap.size ((up (vowB b)).map (Value.int .u8)) rfl (by simp) (by rw [List.length_map]; exact sum_len_u _)) (ints_one .u8 _) (by simp [maxLen]; omega) (by omega) (by simp; omega) ?_
        intro AV2 cV2 w7 o7 g7 l7
        rw [show (vowsN l i).flatten.map (Value.int .u8) ++ (up (vowB b)).map (Value.int .u8) = (vowsN l (i + 1)).flatten.map (Value.int .u8) by rw [vowsN_succ, HBA.out]; simp] at o7
        have k7 : Kept (fun j => at_ AV = some j) w6 w7 := ((Kept.refl (fun j => at_ AV = some j) w6).alloc _).trans (Kept.of_grown g7) (fun j _ h => h)
        have V7 := hid o7
        have O7 := hid ((unhid O6).kept k7 (fun q hq h => HDj.out q h hq))
        have B7 := hid ((unhid B6).kept k7 (fun h => by have := HVA.out g10 h; omega))
        have EW7 := hid (((unhid EW6).alloc hsw6 _).grown g7 (by simp; omega) (fun q hq => ((unhid V6).from_ q hq).1))
        have hsw7 := (unhid EW7).size
        have D7 : Hid (∀ g, at_ AV2 = some g → at_ AB ≠ some g) := hid fun g hg hg' => by
          rcases l7 with h | h
          · exact HDj.out g (h ▸ hg) hg'
          · rw [h] at hg; have e1 := Option.some.inj hg; have := HBAt.out g hg'; simp at e1; omega
        clear o7 g7 l7 k7 bl V6 O6 B6 C6 EW6
        go_wp2_with (with_reducible refine halt_op (some 40) (.load _ _) (fun K hK => ?_))
        refine go_on hK ?_; clear hK
        refine load_mid bidT rfl (.tmp 10) rfl rfl (Blk.rng (unhid B7)) HLb.out ?_
        go_wp2_with (with_reducible refine halt_op (some 41) (.buildSlice _ _ _) (fun K hK => ?_))
        refine go_on hK ?_; clear hK
        refine build1 bidsE (by decide) rfl (.tmp 40) rfl (cs := bc b) rfl HLb.out ?_
        intro bl
        go_wp2_with (at_builtin; refine halt_at (fun K hK => ?_))
        refine go_on hK ?_; clear hK
        refine app_step bidsE rfl (.tmp 39) (.tmp 41) rfl rfl ((unhid O7).alloc _) rfl (Row.lit_full w7 _ _ 1 34 w7.heap.size (bc b) rfl (by simp) (by rw [HLb.out])) (bc_one b) (by simp [maxLen]; omega) (by omega) (by simp; omega) ?_
        intro AB2 cB2 w8 o8 g8 l8
        rw [show ((bidsN l i).map bc).flatten ++ bc b = ((bidsN l (i + 1)).map bc).flatten by rw [bidsN_succ, HBA.out]; simp] at o8
        have k8 : Kept (fun j => at_ AB = some j) w7 w8 := ((Kept.refl (fun j => at_ AB = some j) w7).alloc _).trans (Kept.of_grown g8) (fun j _ h => h)
        have O8 := hid o8
        have V8 := hid ((unhid V7).kept k8 (fun q hq h => D7.out q hq h))
        have EW8 := hid (((unhid EW7).alloc hsw7 _).grown g8 (by simp; omega) (fun q hq => ((unhid O7).from_ q hq).1))
        have D8 : Hid (∀ g, at_ AV2 = some g → at_ AB2 ≠ some g) := hid fun g hg hg' => by
          rcases l8 with h | h
          · exact D7.out g hg (h ▸ hg')
          · rw [h] at hg'; have e1 := Option.some.inj hg'; have := ((unhid V7).from_ g hg).2; simp at e1; omega
        clear o8 g8 l8 k8 bl O7 V7 B7 EW7 D7
        go_wp2_with fail
        go_roundw
        case rel => exact ⟨i + 1, AV2, AB2, cV2, cB2, by omega, by go_num, rfl, rfl, V8, O8, D8, HP2, EW8⟩
        case measure => simp [intOf]; omega
    · have hin2 : n = i := by omega
      subst hin2
      have i2 : ¬ (n : Int) < (n : Int) := by omega
      by_cases hl0 : least < 0
      · have AN := hid (award_no AV AB n cV n cB least wr 2 (.inl ⟨hl0, rfl⟩))
        have hbad : bad l least := .inr hl0
        have HBAD := hid hbad
        clear hl0 hbad
        go_wp2_with fail
        refine (unhid AN).mono ?_
        rintro e w4 ⟨rfl, rfl⟩
        clear AN
        go_wp2_with fail
        go_quiet (fail)
        go_wp2_with fail
        go_ret3
        exact ⟨.inl ⟨unhid HBAD, rfl⟩, (unhid HB).drewN _⟩
      · have hpos : ∀ a ∈ l, 0 ≤ a := fun a ha => by
          obtain ⟨j, hj, rfl⟩ := List.getElem_of_mem ha
          exact HP.out j _ (by have := HLL.out; omega) (List.getElem?_eq_getElem hj)
        have hnb : ¬ bad l least := by
          rintro (⟨a, ha, h⟩ | h)
          · have := hpos a ha; omega
          · exact hl0 h
        have hgd : ∀ j, j < n → l[j]? = some (l.getD j 0) := fun j hj => by rw [List.getD_eq_getElem?_getD, List.getElem?_eq_getElem (by have := HLL.out; omega)]; rfl
        have hbn : ∀ b ∈ bidsN l n, ∃ j, j < n ∧ b = bidAt l j := fun b hb => by
          obtain ⟨j, hj, rfl⟩ := List.mem_map.1 hb
          exact ⟨j, List.mem_range.1 hj, rfl⟩
        have hbk : ∀ b ∈ bidsN l n, BdOk b := fun b hb => by
          obtain ⟨j, hj, rfl⟩ := hbn b hb
          exact bd_zero (by omega) (by omega) (HW.out _ (List.mem_of_getElem? (hgd j hj)))
        have hvl : (vowsN l n).length = n := by simp [vowsN]
        have hok : ∀ b ∈ bidsN l n, okB (vowsN l n) b := fun b hb => by
          obtain ⟨j, hj, rfl⟩ := hbn b hb
          refine ⟨⟨by show (0 : Int) ≤ (j : Int); omega, by show (j : Int) < _; omega, hpos _ (List.mem_of_getElem? (hgd j hj))⟩, by rw [hvl]; show (j : Int) < n; omega, ?_⟩
          show (vowsN l n).getD j [] = _
          unfold vowsN
          rw [List.getD_eq_getElem?_getD, List.getElem?_map, List.getElem?_range hj]; rfl
        have hnd : ((bidsN l n).map (·.who)).Nodup := by
          unfold bidsN
          rw [List.map_map]
          exact List.Pairwise.map _ (fun a b hab => by show (a : Int) ≠ (b : Int); omega) List.nodup_range
        have hcn := cnts_all hok hnd
        have AY := hid (award_yes (vowsN l n) (bidsN l n) AV AB n cV n cB wr.heap.size least wr (Row.of_own (unhid HV)) hvl (fun x hx => by obtain ⟨j, hj, rfl⟩ := List.mem_map.1 hx; exact sum_len_u _) (Row.of_own (unhid HB')) (by simp [bidsN]) hbk (Nat.le_refl _) (by omega) hn hn ((unhid HL).below (unhid HB) hr) (by omega))
        have HNB := hid hnb; have HCN := hid hcn; have HND := hid hnd; have HGD := hid hgd; have HBN := hid hbn
        clear hl0 hpos hnb hbk hvl hok hnd hcn hgd hbn
        go_wp2_with fail
        refine (unhid AY).mono ?_
        rintro e w4 ⟨⟨cs', hp, hpw, rfl⟩, hb4⟩
        rw [HCN.out] at hp
        have haw := aw_sorted least hpw ((hp.map _).nodup_iff.2 HND.out)
        have haw2 : Aw (Ml l) least (awardN cs' least).1 (awardN cs' least).2 := haw.congr fun u a => by
          constructor
          · rintro ⟨c, hc, rfl, rfl⟩
            obtain ⟨j, hj, rfl⟩ := HBN.out c (hp.mem_iff.1 hc)
            exact ⟨j, HGD.out j hj, rfl⟩
          · rintro ⟨j, hj, rfl⟩
            have hjn : j < n := by have := (List.getElem?_eq_some_iff.1 hj).1; rw [HLL.out] at this; exact this
            refine ⟨bidAt l j, hp.mem_iff.2 (List.mem_map.2 ⟨j, List.mem_range.2 hjn, rfl⟩), rfl, ?_⟩
            have := HGD.out j hjn
            rw [hj] at this
            exact (Option.some.inj this).symm
        obtain ⟨x, hx⟩ : ∃ x, (awardN cs' least).1 = x := ⟨_, rfl⟩
        obtain ⟨p, hpp⟩ : ∃ p, (awardN cs' least).2 = p := ⟨_, rfl⟩
        rw [hx, hpp] at haw2
        rw [hx, hpp]
        have HAW2 := hid haw2
        have E4 := hid ((unhid HB).trans (hb4.mono hsw))
        clear hp hpw haw haw2 hb4 AY hx hpp
        go_wp2_with fail
        go_quiet (fail)
        go_wp2_with fail
        go_ret3
        exact ⟨.inr ⟨unhid HNB, x, p, unhid HAW2, rfl⟩, (unhid E4).drewN _⟩
end Go.Proofs.YtlaoijnlemgdfaaDoor

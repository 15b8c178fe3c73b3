/- The walk of the law BidOrder. -/
import Derived.Test.YtlaoijnlemgdfaaDoorBidInW
import Derived.Test.YtlaoijnlemgdfaaDoorBidTruthW
import Derived.Test.YtlaoijnlemgdfaaDoorTold
namespace Go.Proofs.YtlaoijnlemgdfaaDoor
set_option linter.unusedVariables false
open Go.RowKit Go.Mny
theorem nodup_le : ∀ (n : Nat) (qs : List Nat), qs.Nodup → (∀ q ∈ qs, q < n) → qs.length ≤ n
  | 0, qs, _, h => by
    cases qs with
    | nil => simp
    | cons q r => have := h q (by simp); omega
  | n + 1, qs, hn, h => by
    by_cases hm : n ∈ qs
    · have := nodup_le n (qs.erase n) (hn.erase n) (fun q hq => by
        have h1 := h q (List.mem_of_mem_erase hq)
        have h2 : q ≠ n := fun e => by rw [e] at hq; exact (List.Nodup.not_mem_erase hn) hq
        omega)
      rw [List.length_erase_of_mem hm] at this
      omega
    · have := nodup_le n qs hn (fun q hq => by
        have h1 := h q hq
        have h2 : q ≠ n := fun e => hm (by rw [← e]; exact hq)
        omega)
      omega
theorem nodup_full : ∀ (n : Nat) (qs : List Nat), qs.Nodup → (∀ q ∈ qs, q < n) → qs.length = n → ∀ k, k < n → k ∈ qs
  | 0, qs, _, _, _, k, hk => by omega
  | n + 1, qs, hn, h, hl, k, hk => by
    by_cases hm : n ∈ qs
    · by_cases e : k = n
      · rw [e]; exact hm
      · exact List.mem_of_mem_erase (nodup_full n (qs.erase n) (hn.erase n) (fun q hq => by
          have h1 := h q (List.mem_of_mem_erase hq)
          have h2 : q ≠ n := fun e => by rw [e] at hq; exact (List.Nodup.not_mem_erase hn) hq
          omega) (by rw [List.length_erase_of_mem hm]; omega) k (by omega))
    · have := nodup_le n qs hn (fun q hq => by
        have h1 := h q hq
        have h2 : q ≠ n := fun e => hm (by rw [← e]; exact hq)
        omega)
      omega
def pickB (bs : List Bd) (qs : List Nat) : List Bd := qs.map fun q => bs.getD q ⟨0, 0, []⟩
theorem pickB_snoc (bs : List Bd) (qs : List Nat) (q : Nat) : pickB bs (qs ++ [q]) = pickB bs qs ++ [bs.getD q ⟨0, 0, []⟩] := by simp [pickB]
theorem nodup_snocO {qs : List Nat} {q : Nat} (h : qs.Nodup) (hq : ∀ (j x : Nat), qs[j]? = some x → x ≠ q) : (qs ++ [q]).Nodup := by
  rw [List.nodup_append]
  refine ⟨h, by simp, fun a ha b hb => ?_⟩
  obtain ⟨j, hj, rfl⟩ := List.getElem_of_mem ha
  rw [List.mem_singleton] at hb
  subst hb
  exact hq j _ (List.getElem?_eq_getElem hj)
theorem take_snocO {l : List Int} {qs : List Nat} {i q : Nat} (h : l.take i = qs.map (fun x : Nat => (x : Int))) (hq : l[i]? = some (q : Int)) : l.take (i + 1) = (qs ++ [q]).map (fun x : Nat => (x : Int)) := by
  rw [List.take_add_one, hq, h]; simp
/-- whoever is awarded of some is awarded of the same in another order -/
theorem order_same {Vs : List (List Int)} {bs other cs ds : List Bd} (least : Int) (h1 : (bs.map (·.who)).Nodup) (h2 : (other.map (·.who)).Nodup) (hm : ∀ c, c ∈ other ↔ c ∈ bs)
    (p1 : cs.Perm (cnts Vs bs)) (s1 : cs.Pairwise (fun x y => ¬ ltB y x)) (p2 : ds.Perm (cnts Vs other)) (s2 : ds.Pairwise (fun x y => ¬ ltB y x)) :
    (awardN cs least).1 = (awardN ds least).1 ∧ (awardN cs least).2 = (awardN ds least).2 := by
  have e1 : cnts Vs bs = bs.filter (fun b => decide (okB Vs b)) := by unfold cnts; rw [cnts_filter Vs bs [] h1 (fun b _ c hc => by cases hc)]; rfl
  have e2 : cnts Vs other = other.filter (fun b => decide (okB Vs b)) := by unfold cnts; rw [cnts_filter Vs other [] h2 (fun b _ c hc => by cases hc)]; rfl
  rw [e1] at p1
  rw [e2] at p2
  have n1 : (cs.map (·.who)).Nodup := (p1.map _).nodup_iff.2 ((List.filter_sublist.map _).nodup h1)
  have n2 : (ds.map (·.who)).Nodup := (p2.map _).nodup_iff.2 ((List.filter_sublist.map _).nodup h2)
  have a1 := aw_sorted least s1 n1
  have a2 := aw_sorted least s2 n2
  have hcd : ∀ c, c ∈ cs ↔ c ∈ ds := fun c => by
    rw [p1.mem_iff, p2.mem_iff, List.mem_filter, List.mem_filter, hm]
  have a3 := a2.congr (M' := fun u a => ∃ c ∈ cs, c.who = u ∧ c.amt = a) (fun u a => by
    constructor
    · rintro ⟨c, hc, h⟩; exact ⟨c, (hcd c).2 hc, h⟩
    · rintro ⟨c, hc, h⟩; exact ⟨c, (hcd c).1 hc, h⟩)
  refine a1.unique (fun u a b h k => ?_) a3
  obtain ⟨c, hc, hcu, hca⟩ := h
  obtain ⟨d, hd, hdu, hda⟩ := k
  obtain ⟨i, hi, rfl⟩ := List.getElem_of_mem hc
  obtain ⟨j, hj, rfl⟩ := List.getElem_of_mem hd
  have hij : i = j := by
    have hpw := List.pairwise_iff_getElem.1 n1
    rcases Nat.lt_trichotomy i j with h | h | h
    · have := hpw i j (by simpa using hi) (by simpa using hj) h
      rw [List.getElem_map, List.getElem_map] at this
      exact absurd (hcu.trans hdu.symm) this
    · exact h
    · have := hpw j i (by simpa using hj) (by simpa using hi) h
      rw [List.getElem_map, List.getElem_map] at this
      exact absurd (hdu.trans hcu.symm) this
  subst hij
  exact hca.symm.trans hda
theorem errNil : errVal 0 = .nilIface := rfl
theorem errNo {r : Int} (h : r ≠ 0) : errVal r = .iface 38 (.int .i64 r) := by unfold errVal; rw [if_neg h]
set_option maxHeartbeats 4000000 in
set_option maxRecDepth 100000 in
theorem bidOrder_walk (A0 : Option Addr) (n0 c0 m0 : Nat) (A1 : Option Addr) (n1 c1 m1 : Nat) (a2 : Int) (A3 : Option Addr) (n3 c3 : Nat) (l3 : List Int) (w : World) (s0 : Sh.ok w w.heap.size (.slice 32 (.arr 32 1 (.int .u8))) m0 [.slice A0 n0 c0]) (s1 : Sh.ok w w.heap.size (.slice 34 (bidSh)) m1 [.slice A1 n1 c1]) (f2 : (Lit.int .i64 a2).wf = true) (b3 : n3 ≤ c3) (g3 : c3 ≤ maxLen) (r3 : Row w w.heap.size 1 A3 n3 (l3.map (Value.int .i64))) (f3 : ∀ z ∈ l3, (Lit.int .i64 z).wf = true) (rb0 : n0 * 32 ≤ 140737488351232) (rb1 : n1 * 48 ≤ 140737488351232) (rb3 : n3 * 8 ≤ 140737488351232) (hL : Laid w) (h0 : 1 < w.heap.size) (hH : Hdl w) :
    Calls Tryd.prog 10 #[.slice A0 n0 c0, .slice A1 n1 c1, .int .i64 a2, .slice A3 n3 c3] w fun e w' => e = .returned (.bool true) ∧ Below w.heap.size w w' := by
  obtain ⟨A, n, c, Vs, hv, _, _, hVr, hVl, hV2, hm0⟩ := Sh.digests s0
  injection hv with e1 e2 e3
  subst e1 e2 e3
  obtain ⟨A, n, c, bs, hv, _, hBr, hBl, hBk, hm1⟩ := Sh.bids s1
  injection hv with e1 e2 e3
  subst e1 e2 e3
  have hll : l3.length = n3 := by have := r3.len; rw [List.length_map] at this; omega
  have hn1 : n1 ≤ 2932031007401 := by omega
  have hn3 : n3 ≤ 17592186043904 := by omega
  have HV := hid hVr; have HVL := hid hVl; have HV2 := hid (fun l (h : l ∈ Vs) => (hV2 l h).1); have HBR := hid hBr; have HBL := hid hBl; have HBK := hid hBk; have R3 := hid r3; have HLL := hid hll; have HL := hid hL; have HH := hid hH
  have HS := hid (fun b (h : b ∈ bs) => (hBk b h).1)
  clear s0 s1 f2 b3 g3 r3 f3 hVr hVl hV2 hBr hBl hBk hll hL hH rb0 rb1 rb3 hm0 hm1
  go_enter Tryd.func10, Tryd.ntmps10
  go_wp2_with fail
  refine (fact_any _ (unhid HL) h0).mono ?_
  rintro e w1 ⟨rfl, hb1⟩
  have E1 := hid hb1
  have hw1 := hb1.size
  clear hb1
  by_cases t1 : n3 = n1
  rotate_left
  · have t2 : ((n3 : Int) != (n1 : Int)) = true := by simp; omega
    clear t1
    go_wp2_with fail
    go_ret
    exact ⟨rfl, unhid E1⟩
  subst t1
  go_wp2_with fail
  go_loopw [10, 11] (fun v10 v11 wr => ∃ (i : Nat) (qs : List Nat) (AO : Option Addr) (cO : Nat), i ≤ n3 ∧ v11 = .int .i64 i ∧ v10 = .slice AO i cO ∧ Hid (Own wr w1.heap.size 62 34 AO i cO ((pickB bs qs).map bc).flatten) ∧ Hid (l3.take i = qs.map (fun x : Nat => (x : Int))) ∧ Hid (qs.length = i) ∧ Hid (qs.Nodup) ∧ Hid (∀ q ∈ qs, q < n3) ∧ Hid (∀ j k b d, j < k → k < i → bs[j]? = some b → bs[k]? = some d → b.who ≠ d.who) ∧ Hid (Below w1.heap.size w1 wr)) (fun _ v11 _ => n3 - (intOf v11).toNat)
  case atStart => exact ⟨0, [], none, 0, Nat.zero_le _, rfl, rfl, Own.none _ _ _ _, hid rfl, hid rfl, hid List.nodup_nil, hid (fun q hq => by cases hq), hid (fun j k b d h h' => absurd h' (Nat.not_lt_zero _)), Below.refl _ _⟩
  case round =>
    obtain ⟨i, qs, AO, cO, hi, rfl, rfl, HO, HT, HQL, HN, HK, HW, HB⟩ := hrel
    have hzb := (unhid HB).size
    by_cases hin : i < n3
    · have i1 : (0 : Int) ≤ (i : Int) := by omega
      have i2 : (i : Int) < (n3 : Int) := by omega
      have EW := hid ((unhid E1).trans ((unhid HB).mono hw1))
      obtain ⟨g, o, z, rfl, hg, hz, hcz⟩ := row_int (unhid R3) hin
      have C3 : Hid (∀ W, Below w.heap.size w W → W.cell? ⟨g, o + i, none⟩ = some (.int .i64 z)) := hid fun W hW => (hW.cell (p := ⟨g, o + i, none⟩) hg).trans hcz
      have hcw := C3.out _ (unhid EW)
      have HZ := hid hz
      clear hz hcz
      by_cases u1 : z < 0
      · clear C3
        go_wp2_with fail
        go_ret
        exact ⟨rfl, unhid EW⟩
      by_cases u2 : (n3 : Int) ≤ z
      · clear C3
        go_wp2_with fail
        go_ret
        exact ⟨rfl, unhid EW⟩
      obtain ⟨q, rfl⟩ := Int.eq_ofNat_of_zero_le (show 0 ≤ z by omega)
      have HQK := hid (show q < n3 by omega)
      obtain ⟨b, hbi⟩ : ∃ b, bs[i]? = some b := ⟨_, List.getElem?_eq_getElem (by rw [HBL.out]; exact hin)⟩
      have HBI := hid hbi
      obtain ⟨wk, hwk⟩ : ∃ wk : World, wk = wr := ⟨_, rfl⟩
      rw [← hwk] at HO HB hzb hcw EW
      rw [← hwk]
      clear hwk
      go_wp2_with fail
      clear hcw u1 u2 hbi
      go_loopw [12] (fun v12 wr => ∃ j : Nat, j ≤ i ∧ v12 = .int .i64 j ∧ Hid (∀ (j' x : Nat), j' < j → qs[j']? = some x → x ≠ q) ∧ Hid (∀ j' d, j' < j → bs[j']? = some d → d.who ≠ b.who) ∧ Hid (Below wk.heap.size wk wr)) (fun v12 _ => i - (intOf v12).toNat)
      case atStart => exact ⟨0, Nat.zero_le _, rfl, hid (fun j' x h => absurd h (Nat.not_lt_zero _)), hid (fun j' d h => absurd h (Nat.not_lt_zero _)), Below.refl _ _⟩
      case round =>
        obtain ⟨j, hj, rfl, HD, HDW, HE⟩ := hrel
        have hkz := (unhid HE).size
        have EJ := hid ((unhid EW).trans ((unhid HE).mono (unhid EW).size))
        have hci := C3.out _ (unhid EJ)
        by_cases hji : j < i
        · have j1 : (0 : Int) ≤ (j : Int) := by omega
          have j2 : (j : Int) < (n3 : Int) := by omega
          have j3 : (j : Int) < (i : Int) := by omega
          obtain ⟨y, hy⟩ : ∃ y, qs[j]? = some y := ⟨_, List.getElem?_eq_getElem (by rw [HQL.out]; exact hji)⟩
          have hly : l3[j]? = some (y : Int) := by
            have h1 : (l3.take i)[j]? = some (y : Int) := by rw [HT.out, List.getElem?_map, hy]; rfl
            rw [List.getElem?_take, if_pos hji] at h1; exact h1
          obtain ⟨g', o', z', ea, hg', hz', hcz'⟩ := row_int (unhid R3) (show j < n3 by omega)
          injection ea with ea
          injection ea with ea1 ea2
          subst ea1 ea2
          rw [hly] at hz'
          injection hz' with hz'
          subst hz'
          have hcj : wr.cell? ⟨g, o + j, none⟩ = some (.int .i64 (y : Int)) := ((unhid EJ).cell (p := ⟨g, o + j, none⟩) hg).trans hcz'
          obtain ⟨d, hdj⟩ : ∃ d, bs[j]? = some d := ⟨_, List.getElem?_eq_getElem (by rw [HBL.out]; omega)⟩
          have HY := hid hy; have HDJ := hid hdj
          by_cases hyq : y = q
          · have t3 : ((y : Int) == (q : Int)) = true := by simp; omega
            clear hyq hy hly hcz' hdj
            go_wp2_with fail
            go_quiet (fail)
            go_wp2_with fail
            go_ret
            exact ⟨rfl, (unhid EJ).drewN _⟩
          · have t3 : ((y : Int) == (q : Int)) = false := by simp; omega
            have HYQ := hid hyq
            obtain ⟨gb, ob, rfl, hgb, HR1⟩ := bids_at ((unhid HBR).below (unhid EJ)) HS.out hin HBI.out
            obtain ⟨gb', ob', ea, hgb', HR2⟩ := bids_at ((unhid HBR).below (unhid EJ)) HS.out (show j < n3 by omega) hdj
            injection ea with ea
            injection ea with ea1 ea2
            subst ea1 ea2
            have hb0 : wr.cell? ⟨gb, ob + i * 34, none⟩ = some (.int .i64 b.who) := by have := HR1.out 0 (.int .i64 b.who) rfl; rwa [Nat.add_zero] at this
            have hd0 : wr.cell? ⟨gb, ob + j * 34, none⟩ = some (.int .i64 d.who) := by have := HR2.out 0 (.int .i64 d.who) rfl; rwa [Nat.add_zero] at this
            clear hyq hy hly hcz' hdj HR1 HR2
            by_cases hbd : b.who = d.who
            · have t4 : (b.who == d.who) = true := by simp; exact hbd
              clear hbd
              go_wp2_with fail
              go_quiet (fail)
              go_wp2_with fail
              go_ret
              exact ⟨rfl, (unhid EJ).drewN _⟩
            · have t4 : (b.who == d.who) = false := by simp; exact hbd
              have HD2 : Hid (∀ (j' x : Nat), j' < j + 1 → qs[j']? = some x → x ≠ q) := hid fun j' x h hx => by
                by_cases h' : j' = j
                · rw [h', HY.out] at hx; injection hx with hx; rw [← hx]; exact HYQ.out
                · exact HD.out j' x (by omega) hx
              have HDW2 : Hid (∀ j' d, j' < j + 1 → bs[j']? = some d → d.who ≠ b.who) := hid fun j' d' h hx => by
                by_cases h' : j' = j
                · rw [h', HDJ.out] at hx; injection hx with hx; rw [← hx]; exact fun e => hbd e.symm
                · exact HDW.out j' d' (by omega) hx
              clear hbd
              go_wp2_with fail
              go_quiet (fail)
              go_wp2_with fail
              go_roundw
              case rel => exact ⟨j + 1, by omega, by go_num, HD2, HDW2, (unhid HE).drewN _⟩
              case measure => simp [intOf]; omega
        · have j3 : ¬ (j : Int) < (i : Int) := by omega
          have hji2 : j = i := by omega
          have hqk := HQK.out
          have q1 : (0 : Int) ≤ (q : Int) := by omega
          have q2 : (q : Int) < (n3 : Int) := by omega
          obtain ⟨d, hdq⟩ : ∃ d, bs[q]? = some d := ⟨_, List.getElem?_eq_getElem (by rw [HBL.out]; exact hqk)⟩
          have hgd : bs.getD q ⟨0, 0, []⟩ = d := by rw [List.getD_eq_getElem?_getD, hdq]; rfl
          have HGD := hid hgd
          have HOw := hid ((unhid HO).below (unhid HE) (Nat.le_refl _))
          obtain ⟨gb, ob, rfl, hgb, HR1⟩ := bids_at ((unhid HBR).below (unhid EJ)) HS.out hqk hdq
          have HLd := hid (bc_len (HS.out d (List.mem_of_getElem? hdq)))
          have HB2 := hid ((unhid HB).trans ((unhid HE).mono hzb))
          have hzr := (unhid HB2).size
          rw [hji2] at HD HDW
          clear hgd hdq hji2
          go_wp2_with (with_reducible refine halt_op (some 82) (.load _ _) (fun K hK => ?_))
          refine go_on hK ?_; clear hK
          refine load_mid bidT rfl (.tmp 81) rfl rfl (unhid HR1) HLd.out ?_
          go_wp2_with (with_reducible refine halt_op (some 83) (.buildSlice _ _ _) (fun K hK => ?_))
          refine go_on hK ?_; clear hK
          refine build1 bidsE (by decide) rfl (.tmp 82) rfl (cs := bc d) rfl HLd.out ?_
          intro bl
          go_wp2_with (at_builtin; refine halt_at (fun K hK => ?_))
          refine go_on hK ?_; clear hK
          refine app_step bidsE rfl (.tmp 75) (.tmp 83) rfl rfl ((unhid HOw).alloc _) rfl (Row.lit_full wr _ _ 1 34 wr.heap.size (bc d) rfl (by simp) (by rw [HLd.out])) (bc_one d) (by simp [maxLen]; omega) (by omega) (by simp; omega) ?_
          intro A2 c2 w3 o3 g3 l3'
          rw [show ((pickB bs qs).map bc).flatten ++ bc d = ((pickB bs (qs ++ [q])).map bc).flatten by rw [pickB_snoc, HGD.out]; simp] at o3
          have O3 := hid o3
          have E3 := hid (((unhid HB2).alloc hzr _).grown g3 (by simp; omega) (fun q hq => ((unhid HOw).from_ q hq).1))
          have HT3 := hid (take_snocO HT.out HZ.out)
          have HQ3 := hid (show (qs ++ [q]).length = i + 1 by rw [List.length_append, HQL.out]; rfl)
          have HN3 := hid (nodup_snocO HN.out (q := q) (fun j' x hx => HD.out j' x (by have := (List.getElem?_eq_some_iff.1 hx).1; rw [HQL.out] at this; exact this) hx))
          have HK3 : Hid (∀ x ∈ qs ++ [q], x < n3) := hid fun x hx => by
            rcases List.mem_append.1 hx with hx | hx
            · exact HK.out x hx
            · rw [List.mem_singleton] at hx; rw [hx]; exact hqk
          have HW3 : Hid (∀ j k b d, j < k → k < i + 1 → bs[j]? = some b → bs[k]? = some d → b.who ≠ d.who) := hid fun j' k' b' d' h1 h2 h3 h4 => by
            by_cases e : k' = i
            · rw [e, HBI.out] at h4; injection h4 with h4; rw [← h4]; exact HDW.out j' b' (by omega) h3
            · exact HW.out j' k' b' d' h1 (by omega) h3 h4
          clear o3 g3 l3' bl HOw HB2 hci HR1 C3
          go_wp2_with fail
          go_roundw
          case rel => exact ⟨i + 1, qs ++ [q], A2, c2, by omega, by go_num, rfl, O3, HT3, HQ3, HN3, HK3, HW3, E3⟩
          case measure => simp [intOf]; omega
    · have hin2 : n3 = i := by omega
      subst hin2
      have i2 : ¬ (n3 : Int) < (n3 : Int) := by omega
      have EW := hid ((unhid E1).trans ((unhid HB).mono hw1))
      have hww := (unhid EW).size
      have hoth : (pickB bs qs).length = n3 := by simp [pickB, HQL.out]
      have hgq : ∀ q, q < n3 → ∃ b, bs[q]? = some b ∧ bs.getD q ⟨0, 0, []⟩ = b := fun q hq => ⟨bs[q]'(by have := HBL.out; omega), List.getElem?_eq_getElem _, by rw [List.getD_eq_getElem?_getD, List.getElem?_eq_getElem (by have := HBL.out; omega)]; rfl⟩
      have hmem : ∀ c, c ∈ pickB bs qs ↔ c ∈ bs := fun c => by
        constructor
        · intro h
          obtain ⟨q, hq, rfl⟩ := List.mem_map.1 h
          obtain ⟨b, h1, h2⟩ := hgq q (HK.out q hq)
          rw [h2]; exact List.mem_of_getElem? h1
        · intro h
          obtain ⟨k, hk, rfl⟩ := List.getElem_of_mem h
          have hk' : k < n3 := by have := HBL.out; omega
          obtain ⟨b, h1, h2⟩ := hgq k hk'
          refine List.mem_map.2 ⟨k, nodup_full n3 qs HN.out HK.out HQL.out k hk', ?_⟩
          rw [h2]; rw [List.getElem?_eq_getElem hk] at h1; exact (Option.some.inj h1).symm
      have hwn : (bs.map (·.who)).Nodup := by
        rw [List.nodup_iff_pairwise_ne, List.pairwise_iff_getElem]
        intro j k hj hk hjk
        rw [List.length_map] at hj hk
        rw [List.getElem_map, List.getElem_map]
        exact HW.out j k _ _ hjk (by have := HBL.out; omega) (List.getElem?_eq_getElem hj) (List.getElem?_eq_getElem hk)
      have hon : ((pickB bs qs).map (·.who)).Nodup := by
        unfold pickB
        rw [List.map_map, List.nodup_iff_pairwise_ne, List.pairwise_iff_getElem]
        intro j k hj hk hjk
        rw [List.length_map] at hj hk
        rw [List.getElem_map, List.getElem_map]
        obtain ⟨b, h1, h2⟩ := hgq qs[j] (HK.out _ (List.getElem_mem _))
        obtain ⟨d, h3, h4⟩ := hgq qs[k] (HK.out _ (List.getElem_mem _))
        show (bs.getD qs[j] ⟨0, 0, []⟩).who ≠ (bs.getD qs[k] ⟨0, 0, []⟩).who
        rw [h2, h4]
        have hne := List.pairwise_iff_getElem.1 HN.out j k hj hk hjk
        rcases Nat.lt_trichotomy qs[j] qs[k] with h | h | h
        · exact HW.out _ _ b d h (HK.out _ (List.getElem_mem _)) h1 h3
        · exact absurd h hne
        · exact fun e => HW.out _ _ d b h (HK.out _ (List.getElem_mem _)) h3 h1 e.symm
      have HOT := hid hoth; have HMM := hid hmem; have HWN := hid hwn; have HON := hid hon
      have HOK := hid (fun b (h : b ∈ pickB bs qs) => HBK.out b ((hmem b).1 h))
      clear hoth hgq hmem hwn hon
      by_cases hno : (a2 < 0) ∨ (0 ≤ a2 ∧ (100 < n0 ∨ 100 < n3))
      · obtain ⟨r, hr, hr0⟩ : ∃ r : Int, ((a2 < 0 ∧ r = 2) ∨ (0 ≤ a2 ∧ (100 < n0 ∨ 100 < n3) ∧ r = 4)) ∧ r ≠ 0 := by
          rcases hno with h | ⟨h, h2⟩
          · exact ⟨2, .inl ⟨h, rfl⟩, by decide⟩
          · exact ⟨4, .inr ⟨h, h2, rfl⟩, by decide⟩
        have N1 := hid (award_no A0 A1 n0 c0 n3 c1 a2 wr r hr)
        have N2 := hid (award_no A0 AO n0 c0 n3 cO a2 wr r hr)
        have TT := hid (sameTold_any r r wr ((unhid HH).of_below (unhid EW)))
        rw [errNo hr0, show (r == r) = true by simp] at TT
        clear hno hr hr0
        go_wp2_with fail
        refine (unhid N1).mono ?_
        rintro e w' ⟨rfl, rfl⟩
        go_wp2_with fail
        refine (unhid N2).mono ?_
        rintro e w' ⟨rfl, rfl⟩
        go_wp2_with fail
        refine (unhid TT).mono ?_
        rintro e w5 ⟨rfl, hb5⟩
        have E5 := hid ((unhid EW).trans (hb5.mono hww))
        clear hb5 TT N1 N2
        go_wp2_with fail
        go_ret
        exact ⟨by simp, unhid E5⟩
      · have y0 : 0 ≤ a2 := by omega
        have y1 : n0 ≤ 100 := by omega
        have y2 : n3 ≤ 100 := by omega
        have Y1 := hid (award_yes Vs bs A0 A1 n0 c0 n3 c1 w.heap.size a2 wr ((unhid HV).below (unhid EW)) HVL.out HV2.out ((unhid HBR).below (unhid EW)) HBL.out HBK.out hww y0 y1 y2 ((unhid HL).below (unhid EW) h0) (Nat.lt_of_lt_of_le h0 hww))
        have Y2 := hid fun W (hW : Below wr.heap.size wr W) => award_yes Vs (pickB bs qs) A0 AO n0 c0 n3 cO W.heap.size a2 W (((unhid HV).below ((unhid EW).trans (hW.mono hww))).more (Nat.le_trans hww hW.size)) HVL.out HV2.out (Row.of_own ((unhid HO).below hW (Nat.le_refl _))) HOT.out HOK.out (Nat.le_refl _) y0 y1 y2 ((unhid HL).below ((unhid EW).trans (hW.mono hww)) h0) (by have := hW.size; omega)
        clear hno y0 y1 y2
        go_wp2_with fail
        refine (unhid Y1).mono ?_
        rintro e w4 ⟨⟨cs, p1, s1, rfl⟩, hb4⟩
        have P1 := hid p1; have S1 := hid s1; have B4 := hid (hb4.mono (Nat.le_refl _))
        clear p1 s1 hb4 Y1
        go_wp2_with fail
        refine (Y2.out _ (unhid B4)).mono ?_
        rintro e w5 ⟨⟨ds, p2, s2, rfl⟩, hb5⟩
        obtain ⟨k1, k2⟩ := order_same a2 HWN.out HON.out HMM.out (unhid P1) (unhid S1) p2 s2
        rw [← k1, ← k2]
        have E5 := hid ((unhid EW).trans (((unhid B4).trans (hb5.mono (unhid B4).size)).mono hww))
        have TT := hid (sameTold_any 0 0 w5 ((unhid HH).of_below (unhid E5)))
        rw [errNil, show ((0 : Int) == 0) = true from rfl] at TT
        generalize (awardN cs a2).1 = x
        generalize (awardN cs a2).2 = p
        clear p2 s2 hb5 k1 k2 Y2
        go_wp2_with fail
        refine (unhid TT).mono ?_
        rintro e w6 ⟨rfl, hb6⟩
        have E6 := hid ((unhid E5).trans (hb6.mono (unhid E5).size))
        clear hb6 TT
        go_wp2_with fail
        go_ret
        exact ⟨by simp, unhid E6⟩
end Go.Proofs.YtlaoijnlemgdfaaDoor

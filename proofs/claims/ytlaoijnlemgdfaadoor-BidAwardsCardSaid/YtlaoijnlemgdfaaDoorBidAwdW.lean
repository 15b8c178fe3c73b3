/- The walk of the reference's Awarded, and what it has to do with Award. -/
import Derived.Test.YtlaoijnlemgdfaaDoorBidCountW
import Derived.Test.YtlaoijnlemgdfaaDoorBidSoldW
import Derived.BigQuiet
namespace Go.Proofs.YtlaoijnlemgdfaaDoor
set_option linter.unusedVariables false
open Go.RowKit Go.Mny
/-- a price that is bid by one whose bid counts -/
def Mb (Vs : List (List Int)) (bs : List Bd) (u a : Int) : Prop := ∃ (k : Nat) (c : Bd), bs[k]? = some c ∧ cntB Vs bs k c ∧ c.who = u ∧ c.amt = a
theorem cntB_inj {Vs : List (List Int)} {bs : List Bd} {k m : Nat} {c b : Bd} (hk : bs[k]? = some c) (hm : bs[m]? = some b) (h1 : cntB Vs bs k c) (h2 : cntB Vs bs m b) (hw : c.who = b.who) : k = m := by
  by_cases h : k < m
  · exact absurd h1.1 (h2.2 k h c hk hw)
  · by_cases h' : m < k
    · exact absurd h2.1 (h1.2 m h' b hm hw.symm)
    · omega
theorem cntB_first {Vs : List (List Int)} {bs : List Bd} : ∀ (j : Nat) (c : Bd), bs[j]? = some c → okB Vs c → ∃ k, k ≤ j ∧ ∃ d, bs[k]? = some d ∧ d.who = c.who ∧ cntB Vs bs k d := by
  intro j
  induction j using Nat.strongRecOn with
  | _ j ih =>
    intro c hj ho
    by_cases h : cntB Vs bs j c
    · exact ⟨j, Nat.le_refl _, c, hj, rfl, h⟩
    · have : ∃ k, k < j ∧ ∃ d, bs[k]? = some d ∧ d.who = c.who ∧ okB Vs d := by
        apply Classical.byContradiction
        intro hn
        exact h ⟨ho, fun k hk d hd hw ho => hn ⟨k, hk, d, hd, hw, ho⟩⟩
      obtain ⟨k, hk, d, hd, hw, ho'⟩ := this
      obtain ⟨k', hk', d', hd', hw', hc'⟩ := ih k hk d hd ho'
      exact ⟨k', by omega, d', hd', hw'.trans hw, hc'⟩
theorem cnts_mem {Vs : List (List Int)} {bs : List Bd} : ∀ n, n ≤ bs.length → (∀ c, c ∈ cnts Vs (bs.take n) ↔ ∃ k, k < n ∧ bs[k]? = some c ∧ cntB Vs bs k c) ∧ ((cnts Vs (bs.take n)).map (·.who)).Nodup
  | 0, _ => by
    rw [List.take_zero]
    refine ⟨fun c => ⟨fun h => (by cases h), fun ⟨k, hk, _⟩ => (by omega)⟩, by simp [cnts]⟩
  | n + 1, hn => by
    obtain ⟨h1, h2⟩ := cnts_mem (Vs := Vs) (bs := bs) n (by omega)
    obtain ⟨b, hb⟩ : ∃ b, bs[n]? = some b := ⟨_, List.getElem?_eq_getElem (by omega)⟩
    rw [cnts_succ hb]
    have key : cntB Vs bs n b ↔ okB Vs b ∧ ¬ ∃ c ∈ cnts Vs (bs.take n), c.who = b.who := by
      constructor
      · rintro ⟨g1, g2⟩
        refine ⟨g1, ?_⟩
        rintro ⟨c, hc, hw⟩
        obtain ⟨k, hk, hkc, hcc⟩ := (h1 c).1 hc
        exact g2 k hk c hkc hw hcc.1
      · rintro ⟨g1, g2⟩
        refine ⟨g1, fun k hk c hc hw ho => ?_⟩
        obtain ⟨j, hj, d, hd, hdw, hdc⟩ := cntB_first k c hc ho
        exact g2 ⟨d, (h1 d).2 ⟨j, by omega, hd, hdc⟩, hdw.trans hw⟩
    by_cases hc : cntB Vs bs n b
    · have e : cstep Vs (cnts Vs (bs.take n)) b = cnts Vs (bs.take n) ++ [b] := by unfold cstep; rw [if_pos (key.1 hc)]
      rw [e]
      refine ⟨fun c => ?_, ?_⟩
      · rw [List.mem_append, List.mem_singleton, h1]
        constructor
        · rintro (⟨k, hk, g⟩ | rfl)
          · exact ⟨k, by omega, g⟩
          · exact ⟨n, by omega, hb, hc⟩
        · rintro ⟨k, hk, g1, g2⟩
          by_cases hkn : k < n
          · exact .inl ⟨k, hkn, g1, g2⟩
          · have : k = n := by omega
            subst this
            rw [hb] at g1
            exact .inr (Option.some.inj g1).symm
      · rw [List.map_append, List.nodup_append]
        refine ⟨h2, by simp, fun x hx y hy => ?_⟩
        simp only [List.map_cons, List.map_nil, List.mem_singleton] at hy
        obtain ⟨c, hc1, rfl⟩ := List.mem_map.1 hx
        intro e
        exact (key.1 hc).2 ⟨c, hc1, e.trans hy⟩
    · have e : cstep Vs (cnts Vs (bs.take n)) b = cnts Vs (bs.take n) := by unfold cstep; rw [if_neg (fun h => hc (key.2 h))]
      rw [e]
      refine ⟨fun c => ?_, h2⟩
      rw [h1]
      constructor
      · rintro ⟨k, hk, g⟩
        exact ⟨k, by omega, g⟩
      · rintro ⟨k, hk, g1, g2⟩
        refine ⟨k, ?_, g1, g2⟩
        by_cases hkn : k < n
        · exact hkn
        · have : k = n := by omega
          subst this
          rw [hb] at g1
          rw [← Option.some.inj g1] at g2
          exact absurd g2 hc
theorem cnts_all_mem {Vs : List (List Int)} {bs : List Bd} : (∀ c, c ∈ cnts Vs bs ↔ ∃ k, bs[k]? = some c ∧ cntB Vs bs k c) ∧ ((cnts Vs bs).map (·.who)).Nodup := by
  have h := cnts_mem (Vs := Vs) (bs := bs) bs.length (Nat.le_refl _)
  rw [List.take_length] at h
  refine ⟨fun c => (h.1 c).trans ⟨fun ⟨k, _, g⟩ => ⟨k, g⟩, fun ⟨k, g⟩ => ⟨k, (List.getElem?_eq_some_iff.1 g.1).1, g⟩⟩, h.2⟩
/-- Award's answer is the answer over the bids that count -/
theorem award_aw {Vs : List (List Int)} {bs cs' : List Bd} (least : Int) (hp : cs'.Perm (cnts Vs bs)) (hs : cs'.Pairwise (fun x y => ¬ ltB y x)) : Aw (Mb Vs bs) least (awardN cs' least).1 (awardN cs' least).2 := by
  refine (aw_sorted least hs ((hp.map _).nodup_iff.2 cnts_all_mem.2)).congr fun u a => ?_
  constructor
  · rintro ⟨c, hc, h1, h2⟩
    obtain ⟨k, hk, hcc⟩ := (cnts_all_mem.1 c).1 (hp.mem_iff.1 hc)
    exact ⟨k, c, hk, hcc, h1, h2⟩
  · rintro ⟨k, c, hk, hcc, h1, h2⟩
    exact ⟨c, hp.mem_iff.2 ((cnts_all_mem.1 c).2 ⟨k, hk, hcc⟩), h1, h2⟩
theorem Mb_fun {Vs : List (List Int)} {bs : List Bd} (u a b : Int) (h1 : Mb Vs bs u a) (h2 : Mb Vs bs u b) : a = b := by
  obtain ⟨k, c, hk, hc, hu, ha⟩ := h1
  obtain ⟨m, d, hm, hd, hv, hb⟩ := h2
  have e := cntB_inj hk hm hc hd (hu.trans hv.symm)
  subst e
  rw [hk] at hm
  rw [← ha, ← hb, Option.some.inj hm]
/-- the best bid of the first n -/
def Best (Vs : List (List Int)) (bs : List Bd) (least : Int) (n : Nat) (m : Nat) (b : Bd) : Prop :=
  bs[m]? = some b ∧ cntB Vs bs m b ∧ least ≤ b.amt ∧ ∀ k < n, ∀ c, bs[k]? = some c → cntB Vs bs k c → k ≠ m → least ≤ c.amt → ltB b c
def None_ (Vs : List (List Int)) (bs : List Bd) (least : Int) (n : Nat) : Prop := ∀ k < n, ∀ c, bs[k]? = some c → cntB Vs bs k c → c.amt < least
/-- the price, of the first n -/
def Pay (Vs : List (List Int)) (bs : List Bd) (least : Int) (m n : Nat) (p : Int) : Prop :=
  least ≤ p ∧ (∀ k < n, ∀ c, bs[k]? = some c → cntB Vs bs k c → k ≠ m → c.amt ≤ p) ∧ (p = least ∨ ∃ (k : Nat) (c : Bd), bs[k]? = some c ∧ cntB Vs bs k c ∧ k ≠ m ∧ c.amt = p)
theorem aw_none {Vs : List (List Int)} {bs : List Bd} {least : Int} (h : None_ Vs bs least bs.length) : Aw (Mb Vs bs) least (-1) 0 :=
  .inl ⟨fun u a ⟨k, c, hk, hc, _, ha⟩ => by have := h k (List.getElem?_eq_some_iff.1 hk).1 c hk hc; omega, rfl, rfl⟩
theorem aw_best {Vs : List (List Int)} {bs : List Bd} {least p : Int} {m : Nat} {b : Bd} (h : Best Vs bs least bs.length m b) (hp : Pay Vs bs least m bs.length p) : Aw (Mb Vs bs) least b.who p := by
  obtain ⟨h1, h2, h3, h4⟩ := h
  obtain ⟨p1, p2, p3⟩ := hp
  have hne : ∀ {k : Nat} {c : Bd}, c.who ≠ b.who → bs[k]? = some c → k ≠ m := fun {k c} g1 g2 e => by
    subst e; rw [h1] at g2; exact g1 (by rw [Option.some.inj g2])
  refine .inr ⟨b.amt, ⟨m, b, h1, h2, rfl, rfl⟩, h3, ?_, p1, ?_, ?_⟩
  · rintro u a ⟨k, c, hk, hc, rfl, rfl⟩ hu
    by_cases hl : least ≤ c.amt
    · have h := h4 k (List.getElem?_eq_some_iff.1 hk).1 c hk hc (hne hu hk) hl
      unfold ltB at h
      omega
    · omega
  · rintro u a ⟨k, c, hk, hc, rfl, rfl⟩ hu
    exact p2 k (List.getElem?_eq_some_iff.1 hk).1 c hk hc (hne hu hk)
  · rcases p3 with rfl | ⟨k, c, hk, hc, hkm, ha⟩
    · exact .inl rfl
    · exact .inr ⟨c.who, c.amt, ⟨k, c, hk, hc, rfl, rfl⟩, fun e => hkm (cntB_inj hk h1 hc h2 e), ha⟩
theorem lt_succ_cases {Vs : List (List Int)} {bs : List Bd} {i : Nat} {b : Bd} (hb : bs[i]? = some b) {Q : Nat → Bd → Prop} (h : ∀ k < i, ∀ c, bs[k]? = some c → cntB Vs bs k c → Q k c) (hi : cntB Vs bs i b → Q i b) : ∀ k < i + 1, ∀ c, bs[k]? = some c → cntB Vs bs k c → Q k c := by
  intro k hk c hc hcc
  by_cases hki : k < i
  · exact h k hki c hc hcc
  · have : k = i := by omega
    subst this
    rw [hb] at hc
    rw [← Option.some.inj hc] at hcc ⊢
    exact hi hcc
theorem cell34 {w W : World} {D g o i : Nat} {b : Bd} (h : Hid (w.rangeAt g (o + i * 34) (bc b))) (hg : g < D) (hW : Below D w W) : W.cell? ⟨g, o + i * 34, none⟩ = some (.int .i64 b.who) ∧ W.cell? ⟨g, o + i * 34 + 1, none⟩ = some (.int .i64 b.amt) :=
  ⟨rng34 h hg hW 0 (.int .i64 b.who) rfl, rng34 h hg hW 1 (.int .i64 b.amt) rfl⟩
set_option maxHeartbeats 4000000 in
set_option maxRecDepth 100000 in
theorem awarded_any (Vs : List (List Int)) (bs : List Bd) (A0 A1 : Option Addr) (n0 c0 n1 c1 D : Nat) (least : Int) (w : World) (hV : Row w D 32 A0 n0 (Vs.flatten.map (Value.int .u8))) (hVl : Vs.length = n0) (hV2 : ∀ l ∈ Vs, l.length = 32)
    (hB : Row w D 34 A1 n1 (bs.map bc).flatten) (hB2 : ∀ b ∈ bs, BdOk b) (hBl : bs.length = n1) (hD : D ≤ w.heap.size) (hn1 : n1 ≤ 100) :
    Calls Tryd.prog 25 #[.slice A0 n0 c0, .slice A1 n1 c1, .int .i64 least] w fun e w' => (∃ x p, Aw (Mb Vs bs) least x p ∧ e = .returned (.tuple #[.int .i64 x, .int .i64 p])) ∧ Below w.heap.size w w' := by
  have HV := hid hV; have HVL := hid hVl; have HV2 := hid hV2; have HBR := hid hB; have HBL := hid hBl; have HB2 := hid hB2
  have HS := hid (fun b (h : b ∈ bs) => (hB2 b h).1)
  clear hV hVl hV2 hB hBl hB2
  go_enter Tryd.func25, Tryd.ntmps25
  go_wp2_with fail
  go_loopw [8, 9] (fun v8 v9 wr => ∃ (i : Nat) (z : Int), i ≤ n1 ∧ v9 = .int .i64 i ∧ v8 = .int .i64 z ∧ Hid ((z = -1 ∧ None_ Vs bs least i) ∨ ∃ (m : Nat) (b : Bd), m < n1 ∧ z = (m : Int) ∧ Best Vs bs least i m b) ∧ Hid (Below w.heap.size w wr)) (fun _ v9 _ => n1 - (intOf v9).toNat)
  case atStart => exact ⟨0, -1, Nat.zero_le _, rfl, rfl, hid (.inl ⟨rfl, fun k h => absurd h (Nat.not_lt_zero _)⟩), Below.refl _ _⟩
  case round =>
    obtain ⟨i, z, hi, rfl, rfl, HZ, HB⟩ := hrel
    by_cases hin : i < n1
    · obtain ⟨b, hb⟩ : ∃ b, bs[i]? = some b := ⟨_, List.getElem?_eq_getElem (by rw [HBL.out]; exact hin)⟩
      have HBI := hid hb
      obtain ⟨gb, ob, rfl, hgb, HRG⟩ := bids_at (unhid HBR) HS.out hin hb
      obtain ⟨wq, hwq⟩ : ∃ wq : World, wq = wr := ⟨_, rfl⟩
      rw [← hwq] at HB
      rw [← hwq]
      have hsq := (unhid HB).size
      have i1 : (0 : Int) ≤ (i : Int) := by omega
      have i2 : (i : Int) < (n1 : Int) := by omega
      clear hwq hb
      by_cases hc : cntB Vs bs i b
      · have CT := hid (counts_any Vs bs A0 (some ⟨gb, ob, none⟩) n0 c0 n1 c1 D i b wq ((unhid HV).below ((unhid HB).mono hD)) HVL.out HV2.out ((unhid HBR).below ((unhid HB).mono hD)) HB2.out HBL.out (Nat.le_trans hD hsq) hn1 HBI.out true ⟨fun _ => hc, fun _ => rfl⟩)
        have HC := hid hc
        clear hc
        go_wp2_with fail
        refine (unhid CT).mono ?_
        rintro e w5 ⟨rfl, hb5⟩
        have E5 := hid ((unhid HB).trans (hb5.mono hsq))
        obtain ⟨ci0, ci1⟩ := cell34 HRG hgb ((unhid E5).mono hD)
        clear hb5 CT HB
        by_cases hlt : b.amt < least
        · have HZ2 : Hid ((z = -1 ∧ None_ Vs bs least (i + 1)) ∨ ∃ (m : Nat) (b : Bd), m < n1 ∧ z = (m : Int) ∧ Best Vs bs least (i + 1) m b) := hid (by
            rcases HZ.out with ⟨e, h⟩ | ⟨m, d, h1, h2, h3, h4, h5, h6⟩
            · exact .inl ⟨e, lt_succ_cases (Q := fun k c => c.amt < least) HBI.out h fun _ => hlt⟩
            · exact .inr ⟨m, d, h1, h2, h3, h4, h5, lt_succ_cases (Q := fun k c => k ≠ m → least ≤ c.amt → ltB d c) HBI.out h6 fun _ _ h => by omega⟩)
          go_wp2_with fail
          go_roundw
          case rel => exact ⟨i + 1, z, by omega, by go_num, rfl, HZ2, E5⟩
          case measure => simp [intOf]; omega
        · obtain HZ | HZ : Hid (z = -1 ∧ None_ Vs bs least i) ∨ Hid (∃ (m : Nat) (b : Bd), m < n1 ∧ z = (m : Int) ∧ Best Vs bs least i m b) := by rcases HZ.out with h | h; exact .inl (hid h); exact .inr (hid h)
          · obtain ⟨rfl, hno⟩ := HZ.out
            have HZ2 : Hid (((i : Int) = -1 ∧ None_ Vs bs least (i + 1)) ∨ ∃ (m : Nat) (b : Bd), m < n1 ∧ (i : Int) = (m : Int) ∧ Best Vs bs least (i + 1) m b) := hid (.inr ⟨i, b, hin, rfl, HBI.out, HC.out, by omega, lt_succ_cases (Q := fun k c => k ≠ i → least ≤ c.amt → ltB b c) HBI.out (fun k hk c hc hcc _ h => absurd (hno k hk c hc hcc) (by omega)) fun _ h => absurd rfl h⟩)
            clear hno HZ
            go_wp2_with fail
            go_quiet (fail)
            go_wp2_with fail
            go_roundw
            case rel => exact ⟨i + 1, i, by omega, by go_num, rfl, HZ2, hid ((unhid E5).drewN _)⟩
            case measure => simp [intOf]; omega
          · obtain ⟨m, d, hm, rfl, hbst⟩ := HZ.out
            have HBS := hid hbst
            obtain ⟨g', o', ea, _, HRM⟩ := bids_at (unhid HBR) HS.out hm hbst.1
            injection ea with ea
            injection ea with ea1 ea2
            subst ea1 ea2
            obtain ⟨cm0, cm1⟩ := cell34 HRM hgb ((unhid E5).mono hD)
            have m1 : (0 : Int) ≤ (m : Int) := by omega
            have m2 : (m : Int) < (n1 : Int) := by omega
            have hm0 : decide ((m : Int) < 0) = false := by simp
            clear hbst HZ
            by_cases hg : d.amt < b.amt
            · have HZ2 : Hid (((i : Int) = -1 ∧ None_ Vs bs least (i + 1)) ∨ ∃ (m : Nat) (b : Bd), m < n1 ∧ (i : Int) = (m : Int) ∧ Best Vs bs least (i + 1) m b) := hid (.inr ⟨i, b, hin, rfl, HBI.out, HC.out, by omega, lt_succ_cases (Q := fun k c => k ≠ i → least ≤ c.amt → ltB b c) HBI.out (fun k hk c hc hcc _ h => by
                by_cases hkm : k = m
                · subst hkm; rw [HBS.out.1] at hc; rw [← Option.some.inj hc]; exact .inl hg
                · have := HBS.out.2.2.2 k hk c hc hcc hkm h; unfold ltB at this ⊢; omega) fun _ h => absurd rfl h⟩)
              have hd1 : decide (d.amt < b.amt) = true := by simpa using hg
              go_wp2_with fail
              go_quiet (fail)
              go_wp2_with fail
              go_roundw
              case rel => exact ⟨i + 1, i, by omega, by go_num, rfl, HZ2, hid ((unhid E5).drewN _)⟩
              case measure => simp [intOf]; omega
            · by_cases he : b.amt = d.amt
              · by_cases hw : b.who < d.who
                · have HZ2 : Hid (((i : Int) = -1 ∧ None_ Vs bs least (i + 1)) ∨ ∃ (m : Nat) (b : Bd), m < n1 ∧ (i : Int) = (m : Int) ∧ Best Vs bs least (i + 1) m b) := hid (.inr ⟨i, b, hin, rfl, HBI.out, HC.out, by omega, lt_succ_cases (Q := fun k c => k ≠ i → least ≤ c.amt → ltB b c) HBI.out (fun k hk c hc hcc _ h => by
                    by_cases hkm : k = m
                    · subst hkm; rw [HBS.out.1] at hc; rw [← Option.some.inj hc]; exact .inr ⟨he, hw⟩
                    · have := HBS.out.2.2.2 k hk c hc hcc hkm h; unfold ltB at this ⊢; omega) fun _ h => absurd rfl h⟩)
                  have hd1 : decide (d.amt < b.amt) = false := by simpa using hg
                  have hd2 : decide (b.amt = d.amt) = true := by simpa using he
                  have hd3 : (b.amt == d.amt) = true := by simpa using he
                  have hd4 : decide (b.who < d.who) = true := by simpa using hw
                  go_wp2_with fail
                  go_quiet (fail)
                  go_wp2_with fail
                  go_roundw
                  case rel => exact ⟨i + 1, i, by omega, by go_num, rfl, HZ2, hid ((unhid E5).drewN _)⟩
                  case measure => simp [intOf]; omega
                · have HZ2 : Hid (((m : Int) = -1 ∧ None_ Vs bs least (i + 1)) ∨ ∃ (m' : Nat) (b : Bd), m' < n1 ∧ (m : Int) = (m' : Int) ∧ Best Vs bs least (i + 1) m' b) := hid (.inr ⟨m, d, hm, rfl, HBS.out.1, HBS.out.2.1, HBS.out.2.2.1, lt_succ_cases (Q := fun k c => k ≠ m → least ≤ c.amt → ltB d c) HBI.out HBS.out.2.2.2 fun _ hne _ => by
                    have hww : b.who ≠ d.who := fun e => hne (cntB_inj HBI.out HBS.out.1 HC.out HBS.out.2.1 e)
                    unfold ltB; omega⟩)
                  have hd1 : decide (d.amt < b.amt) = false := by simpa using hg
                  have hd2 : decide (b.amt = d.amt) = true := by simpa using he
                  have hd3 : (b.amt == d.amt) = true := by simpa using he
                  have hd4 : decide (b.who < d.who) = false := by simpa using hw
                  go_wp2_with fail
                  go_quiet (fail)
                  go_wp2_with fail
                  go_roundw
                  case rel => exact ⟨i + 1, m, by omega, by go_num, rfl, HZ2, hid ((unhid E5).drewN _)⟩
                  case measure => simp [intOf]; omega
              · have HZ2 : Hid (((m : Int) = -1 ∧ None_ Vs bs least (i + 1)) ∨ ∃ (m' : Nat) (b : Bd), m' < n1 ∧ (m : Int) = (m' : Int) ∧ Best Vs bs least (i + 1) m' b) := hid (.inr ⟨m, d, hm, rfl, HBS.out.1, HBS.out.2.1, HBS.out.2.2.1, lt_succ_cases (Q := fun k c => k ≠ m → least ≤ c.amt → ltB d c) HBI.out HBS.out.2.2.2 fun _ hne _ => by
                  unfold ltB; omega⟩)
                have hd1 : decide (d.amt < b.amt) = false := by simpa using hg
                have hd2 : decide (b.amt = d.amt) = false := by simpa using he
                have hd3 : (b.amt == d.amt) = false := by simpa using he
                go_wp2_with fail
                go_quiet (fail)
                go_wp2_with fail
                go_roundw
                case rel => exact ⟨i + 1, m, by omega, by go_num, rfl, HZ2, hid ((unhid E5).drewN _)⟩
                case measure => simp [intOf]; omega
      · have CT := hid (counts_any Vs bs A0 (some ⟨gb, ob, none⟩) n0 c0 n1 c1 D i b wq ((unhid HV).below ((unhid HB).mono hD)) HVL.out HV2.out ((unhid HBR).below ((unhid HB).mono hD)) HB2.out HBL.out (Nat.le_trans hD hsq) hn1 HBI.out false ⟨fun h => absurd h (by decide), fun h => absurd h hc⟩)
        have HZ2 : Hid ((z = -1 ∧ None_ Vs bs least (i + 1)) ∨ ∃ (m : Nat) (b : Bd), m < n1 ∧ z = (m : Int) ∧ Best Vs bs least (i + 1) m b) := hid (by
          rcases HZ.out with ⟨e, h⟩ | ⟨m, d, h1, h2, h3, h4, h5, h6⟩
          · exact .inl ⟨e, lt_succ_cases (Q := fun k c => c.amt < least) HBI.out h fun h => absurd h hc⟩
          · exact .inr ⟨m, d, h1, h2, h3, h4, h5, lt_succ_cases (Q := fun k c => k ≠ m → least ≤ c.amt → ltB d c) HBI.out h6 fun h => absurd h hc⟩)
        clear hc
        go_wp2_with fail
        refine (unhid CT).mono ?_
        rintro e w5 ⟨rfl, hb5⟩
        have E5 := hid ((unhid HB).trans (hb5.mono hsq))
        clear hb5 CT HB
        go_wp2_with fail
        go_roundw
        case rel => exact ⟨i + 1, z, by omega, by go_num, rfl, HZ2, E5⟩
        case measure => simp [intOf]; omega
    · have i3 : (n1 : Int) ≤ (i : Int) := by omega
      obtain HZ | HZ : Hid (z = -1 ∧ None_ Vs bs least i) ∨ Hid (∃ (m : Nat) (b : Bd), m < n1 ∧ z = (m : Int) ∧ Best Vs bs least i m b) := by rcases HZ.out with h | h; exact .inl (hid h); exact .inr (hid h)
      · obtain ⟨rfl, hno⟩ := HZ.out
        have HAW : Hid (Aw (Mb Vs bs) least (-1) 0) := hid (aw_none (by rw [HBL.out, show n1 = i by omega]; exact hno))
        clear hno HZ
        go_wp2_with fail
        go_ret2
        exact ⟨⟨-1, 0, unhid HAW, rfl⟩, unhid HB⟩
      · obtain ⟨m, b, hm, rfl, hbst⟩ := HZ.out
        have hbst : Best Vs bs least bs.length m b := by rw [HBL.out, show n1 = i by omega]; exact hbst
        have HBS := hid hbst
        obtain ⟨gb, ob, rfl, hgb, HRM⟩ := bids_at (unhid HBR) HS.out hm hbst.1
        have m1 : (0 : Int) ≤ (m : Int) := by omega
        have m2 : (m : Int) < (n1 : Int) := by omega
        have hm0 : decide ((m : Int) < 0) = false := by simp
        obtain ⟨wo, hwo⟩ : ∃ wo : World, wo = wr := ⟨_, rfl⟩
        rw [← hwo] at HB
        rw [← hwo]
        clear hbst HZ hwo
        go_wp2_with fail
        go_loopw [10, 11] (fun v10 v11 wr => ∃ (k : Nat) (p : Int), k ≤ n1 ∧ v11 = .int .i64 k ∧ v10 = .int .i64 p ∧ Hid (Pay Vs bs least m k p) ∧ Hid (Below w.heap.size w wr)) (fun _ v11 _ => n1 - (intOf v11).toNat)
        case atStart => exact ⟨0, least, Nat.zero_le _, rfl, rfl, hid ⟨Int.le_refl _, fun k h => absurd h (Nat.not_lt_zero _), .inl rfl⟩, HB⟩
        case round =>
          obtain ⟨k, p, hk, rfl, rfl, HP, HB⟩ := hrel
          by_cases hkn : k < n1
          · obtain ⟨d, hd⟩ : ∃ d, bs[k]? = some d := ⟨_, List.getElem?_eq_getElem (by rw [HBL.out]; exact hkn)⟩
            have HDI := hid hd
            obtain ⟨g', o', ea, _, HRK⟩ := bids_at (unhid HBR) HS.out hkn hd
            injection ea with ea
            injection ea with ea1 ea2
            subst ea1 ea2
            obtain ⟨wq, hwq⟩ : ∃ wq : World, wq = wr := ⟨_, rfl⟩
            rw [← hwq] at HB
            rw [← hwq]
            have hsq := (unhid HB).size
            have k1 : (0 : Int) ≤ (k : Int) := by omega
            have k2 : (k : Int) < (n1 : Int) := by omega
            clear hwq hd
            by_cases hkm : (k : Int) = (m : Int)
            · have HP2 : Hid (Pay Vs bs least m (k + 1) p) := hid ⟨HP.out.1, lt_succ_cases (Q := fun k c => k ≠ m → c.amt ≤ p) HDI.out HP.out.2.1 fun _ h => absurd (by omega) h, HP.out.2.2⟩
              have hn1 : decide ((k : Int) = (m : Int)) = true := by simpa using hkm
              have hn2 : ((k : Int) != (m : Int)) = false := by simpa using hkm
              clear hkm
              go_wp2_with fail
              go_roundw
              case rel => exact ⟨k + 1, p, by omega, by go_num, rfl, HP2, HB⟩
              case measure => simp [intOf]; omega
            · have hn1' : decide ((k : Int) = (m : Int)) = false := by simpa using hkm
              have hn2 : ((k : Int) != (m : Int)) = true := by simpa using hkm
              by_cases hc : cntB Vs bs k d
              · have CT := hid (counts_any Vs bs A0 (some ⟨gb, ob, none⟩) n0 c0 n1 c1 D k d wq ((unhid HV).below ((unhid HB).mono hD)) HVL.out HV2.out ((unhid HBR).below ((unhid HB).mono hD)) HB2.out HBL.out (Nat.le_trans hD hsq) hn1 HDI.out true ⟨fun _ => hc, fun _ => rfl⟩)
                have HC := hid hc
                clear hc
                go_wp2_with fail
                refine (unhid CT).mono ?_
                rintro e w5 ⟨rfl, hb5⟩
                have E5 := hid ((unhid HB).trans (hb5.mono hsq))
                obtain ⟨ci0, ci1⟩ := cell34 HRK hgb ((unhid E5).mono hD)
                clear hb5 CT HB
                by_cases hgt : p < d.amt
                · have HP2 : Hid (Pay Vs bs least m (k + 1) d.amt) := hid ⟨by have := HP.out.1; omega, lt_succ_cases (Q := fun k c => k ≠ m → c.amt ≤ d.amt) HDI.out (fun j hj c hc hcc hjm => by have := HP.out.2.1 j hj c hc hcc hjm; omega) fun _ _ => Int.le_refl _, .inr ⟨k, d, HDI.out, HC.out, fun e => hkm (by rw [e]), rfl⟩⟩
                  clear hkm
                  go_wp2_with fail
                  go_roundw
                  case rel => exact ⟨k + 1, d.amt, by omega, by go_num, rfl, HP2, E5⟩
                  case measure => simp [intOf]; omega
                · have HP2 : Hid (Pay Vs bs least m (k + 1) p) := hid ⟨HP.out.1, lt_succ_cases (Q := fun k c => k ≠ m → c.amt ≤ p) HDI.out HP.out.2.1 fun _ _ => by omega, HP.out.2.2⟩
                  clear hkm
                  go_wp2_with fail
                  go_roundw
                  case rel => exact ⟨k + 1, p, by omega, by go_num, rfl, HP2, E5⟩
                  case measure => simp [intOf]; omega
              · have CT := hid (counts_any Vs bs A0 (some ⟨gb, ob, none⟩) n0 c0 n1 c1 D k d wq ((unhid HV).below ((unhid HB).mono hD)) HVL.out HV2.out ((unhid HBR).below ((unhid HB).mono hD)) HB2.out HBL.out (Nat.le_trans hD hsq) hn1 HDI.out false ⟨fun h => absurd h (by decide), fun h => absurd h hc⟩)
                have HP2 : Hid (Pay Vs bs least m (k + 1) p) := hid ⟨HP.out.1, lt_succ_cases (Q := fun k c => k ≠ m → c.amt ≤ p) HDI.out HP.out.2.1 fun h => absurd h hc, HP.out.2.2⟩
                clear hc hkm
                go_wp2_with fail
                refine (unhid CT).mono ?_
                rintro e w5 ⟨rfl, hb5⟩
                have E5 := hid ((unhid HB).trans (hb5.mono hsq))
                clear hb5 CT HB
                go_wp2_with fail
                go_roundw
                case rel => exact ⟨k + 1, p, by omega, by go_num, rfl, HP2, E5⟩
                case measure => simp [intOf]; omega
          · have k3 : (n1 : Int) ≤ (k : Int) := by omega
            have HAW : Hid (Aw (Mb Vs bs) least b.who p) := hid (aw_best HBS.out (by rw [HBL.out, show n1 = k by omega]; exact HP.out))
            obtain ⟨cm0, cm1⟩ := cell34 HRM hgb ((unhid HB).mono hD)
            go_wp2_with fail
            go_ret2
            exact ⟨⟨b.who, p, unhid HAW, rfl⟩, unhid HB⟩
end Go.Proofs.YtlaoijnlemgdfaaDoor

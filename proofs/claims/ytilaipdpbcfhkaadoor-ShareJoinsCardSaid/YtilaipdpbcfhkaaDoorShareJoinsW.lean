/- The walks of the reference's Joined and of the law ShareJoins. -/
import Derived.Test.YtilaipdpbcfhkaaDoorRThroughW
import Derived.Test.YtilaipdpbcfhkaaDoorJoinErrW
import Derived.Test.YtilaipdpbcfhkaaDoorTold
import Derived.Test.YtilaipdpbcfhkaaDoorBytesW
import Derived.Test.YtilaipdpbcfhkaaDoorReach
import Derived.OpenShut
namespace Go.Proofs.YtilaipdpbcfhkaaDoor
set_option linter.unusedVariables false
open Go.RowKit Go.Mny
theorem getD_map {α β : Type} (f : α → β) (l : List α) (i : Nat) (a : α) (b : β) (h : i < l.length) : (l.map f).getD i b = f (l.getD i a) := by
  rw [List.getD_eq_getElem?_getD, List.getD_eq_getElem?_getD, List.getElem?_map, List.getElem?_eq_getElem h]; rfl
theorem tv_lag (at_ : List Nat) (R : List (List Nat)) (k : Nat) (hR : R.length = at_.length) : ∀ i, i ≤ at_.length → tv (wgtN at_ 0 at_.length) R k i = Fld.lagTo at_ (R.map fun r => r.getD k 0) 0 i
  | 0, _ => rfl
  | i + 1, h => by
    rw [tv, Fld.lagTo, tv_lag at_ R k hR i (by omega)]
    congr 2
    · unfold wgtN
      rw [getD_map _ _ i 0 0 (by rw [List.length_range]; omega)]
      simp [List.getElem?_range (show i < at_.length by omega)]
    · rw [getD_map (fun r : List Nat => r.getD k 0) R i [] 0 (by omega)]
def joinedN (L : List (Nat × List Nat)) (x m : Nat) : List Nat := (List.range m).map fun k => Fld.newtN (L.map (·.1)) (L.map fun p => p.2.getD k 0) x
theorem joinedN_succ (L : List (Nat × List Nat)) (x m : Nat) : joinedN L x (m + 1) = joinedN L x m ++ [Fld.newtN (L.map (·.1)) (L.map fun p => p.2.getD m 0) x] := by simp [joinedN, List.range_succ]
theorem joinedN_eq (L : List (Nat × List Nat)) (n m : Nat) (hl : L.length = n) (h1 : 1 ≤ n) (h8 : ∀ p ∈ L, p.1 < 256 ∧ By8s p.2) (hn : (L.map (·.1)).Nodup) :
    outT (wgtN (L.map (·.1)) 0 n) (L.map (·.2)) m n = joinedN L 0 m := by
  refine List.map_congr_left fun k _ => ?_
  have ha : (L.map (·.1)).length = n := by rw [List.length_map, hl]
  have ht := tv_lag (L.map (·.1)) (L.map (·.2)) k (by simp) n (by omega)
  rw [ha] at ht
  rw [ht, Fld.newtN_lag _ _ 0 (by intro z hz; obtain ⟨p, hp, rfl⟩ := List.mem_map.1 hz; exact (h8 p hp).1) (by intro z hz; obtain ⟨p, hp, rfl⟩ := List.mem_map.1 hz; exact getD_by (h8 p hp).2 k) hn (by omega) (by simp) (by decide)]
  unfold Fld.lag
  rw [ha, List.map_map]
  rfl
theorem fact9 : outT (wgtN [3] 0 1) [[9]] 1 1 = [9] := by decide +kernel
def JoinF (w0 : World) (e : Ending) (w' : World) : Prop := ∃ A2, e = .returned (.tuple #[.slice A2 1 1, .nilIface]) ∧ Row w' w'.heap.size 1 A2 1 (byt [9]) ∧ Below w0.heap.size w0 w'
theorem join_fact (w : World) :
    Calls Tryd.prog 22 #[.slice (some ⟨w.heap.size + 1, 0, none⟩) 1 1] ((w.alloc (.cells #[.int .u8 9] 5)).alloc (.cells #[.int .u8 3, .slice (some ⟨w.heap.size, 0, none⟩) 1 1] 49)) (JoinF w) := by
  have B0 := Blk.new w 5 #[.int .u8 9]
  have B1 := Blk.new (w.alloc (.cells #[.int .u8 9] 5)) 49 #[.int .u8 3, .slice (some ⟨w.heap.size, 0, none⟩) 1 1]
  have F0 := B0.alloc (.cells #[.int .u8 3, .slice (some ⟨w.heap.size, 0, none⟩) 1 1] 49)
  rw [show (w.alloc (.cells #[.int .u8 9] 5)).heap.size = w.heap.size + 1 by simp] at B1
  have EE : Below w.heap.size w ((w.alloc (.cells #[.int .u8 9] 5)).alloc (.cells #[.int .u8 3, .slice (some ⟨w.heap.size, 0, none⟩) 1 1] 49)) := ((Below.refl _ _).alloc (Nat.le_refl _) _).alloc (by simp) _
  have hz : ((w.alloc (.cells #[.int .u8 9] 5)).alloc (.cells #[.int .u8 3, .slice (some ⟨w.heap.size, 0, none⟩) 1 1] 49)).heap.size = w.heap.size + 2 := by simp
  generalize (w.alloc (.cells #[.int .u8 9] 5)).alloc (.cells #[.int .u8 3, .slice (some ⟨w.heap.size, 0, none⟩) 1 1] 49) = w3 at B1 F0 EE hz ⊢
  have R0 : Row w3 (w.heap.size + 2) 1 (some ⟨w.heap.size, 0, none⟩) 1 (byt [9]) := F0.row (by omega) rfl (fun j hj => by simp)
  have R1 : Row w3 (w.heap.size + 2) 2 (some ⟨w.heap.size + 1, 0, none⟩) 1 [.int .u8 3, .slice (some ⟨w.heap.size, 0, none⟩) 1 1] := B1.row (by omega) rfl (fun j hj => by simp)
  have hS : ShR w3 (w.heap.size + 2) (some ⟨w.heap.size + 1, 0, none⟩) 1 [(3, [9])] := ⟨_, R1, rfl, fun i x d hi => by
    cases i with
    | zero =>
      simp only [List.getElem?_cons_zero, Option.some.injEq, Prod.mk.injEq] at hi
      obtain ⟨rfl, rfl⟩ := hi
      exact ⟨_, 1, rfl, rfl, Nat.le_refl _, R0⟩
    | succ i => simp at hi⟩
  refine (join_yes [(3, [9])] _ 1 1 (w.heap.size + 2) 1 w3 hS (by omega) (by decide) (by decide) (by decide) (by
    intro p hp
    obtain rfl : p = (3, [9]) := by simpa using hp
    refine ⟨by decide, by decide, rfl, ?_⟩
    intro x hx; simp at hx; omega) (by simp)).mono ?_
  rintro e w' ⟨A2, rfl, r2, hb⟩
  have r3 : Row w' w'.heap.size 1 A2 1 (byt (outT (wgtN [3] 0 1) [[9]] 1 1)) := r2
  rw [fact9] at r3
  exact ⟨A2, rfl, r3, EE.trans (hb.mono (by omega))⟩
def JndP (L : List (Nat × List Nat)) (x m : Nat) (w : World) (e : Ending) (w' : World) : Prop :=
  ∃ A2 c2, e = .returned (.slice A2 m c2) ∧ Row w' w'.heap.size 1 A2 m (byt (joinedN L x m)) ∧ Below w.heap.size w w'
set_option maxHeartbeats 4000000 in
set_option maxRecDepth 100000 in
theorem joined_any (L : List (Nat × List Nat)) (x m : Nat) (A : Option Addr) (n c D : Nat) (w : World) (hA : ShR w D A n L) (hD : D ≤ w.heap.size) (h1 : 1 ≤ n) (hn : n ≤ 20) (hm : m ≤ 140737488351232) (hx : x < 256)
    (h8 : ∀ p ∈ L, p.1 < 256 ∧ By8s p.2 ∧ p.2.length = m) (hnd : (L.map (·.1)).Nodup) :
    Calls Tryd.prog 21 #[.slice A n c, .int .u8 (x : Int)] w (JndP L x m w) := by
  have hl : L.length = n := by obtain ⟨_, _, h, _⟩ := hA; exact h
  have HL := hid hA; have HLL := hid hl; have H8 := hid h8; have HND := hid hnd
  obtain ⟨p0, hp0⟩ : ∃ p, L[0]? = some p := ⟨_, List.getElem?_eq_getElem (by omega)⟩
  obtain ⟨x0, d0⟩ := p0
  obtain ⟨g1, o1, Ad0, cd0, rfl, hg1, _, q1, _, _⟩ := hA.at (show 0 < n by omega) hp0
  have hdl0 : d0.length = m := (h8 _ (List.mem_of_getElem? hp0)).2.2
  rw [hdl0, Nat.zero_mul, Nat.add_zero] at q1
  have CD : Hid (∀ W, Below D w W → W.cell? ⟨g1, o1 + 1, none⟩ = some (.slice Ad0 m cd0)) := hid fun W hW => (hW.cell (p := ⟨g1, o1 + 1, none⟩) hg1).trans q1
  clear hA hl h8 hnd hp0 q1 hdl0
  go_enter Tryd.func21, Tryd.ntmps21
  go_wp2_with fail
  go_loopw [5, 6] (fun v5 v6 wr => ∃ (k : Nat) (AO : Option Addr) (cO : Nat), k ≤ m ∧ v6 = .int .i64 k ∧ v5 = .slice AO k cO ∧ Hid (Mny.Own wr w.heap.size 5 1 AO k cO (byt (joinedN L x k))) ∧ Hid (Below w.heap.size w wr)) (fun _ v6 _ => m - (intOf v6).toNat)
  case atStart => exact ⟨0, none, 0, Nat.zero_le _, rfl, rfl, Own.none _ _ _ _, Below.refl _ _⟩
  case round =>
    obtain ⟨k, AO, cO, hk, rfl, rfl, HO, HB⟩ := hrel
    have hbw := (unhid HB).size
    have hc0 := CD.out _ ((unhid HB).mono hD)
    have i0 : (0 : Int) < (n : Int) := by omega
    by_cases hkm : k < m
    · obtain ⟨wk, hwk⟩ : ∃ wk : World, wk = wr := ⟨_, rfl⟩
      rw [← hwk] at HO HB hbw hc0
      rw [← hwk]
      clear hwk
      have i2 : (k : Int) < (m : Int) := by omega
      have i1 : (0 : Int) ≤ (k : Int) := by omega
      go_wp2_with fail
      clear hc0
      go_loopw [7, 8, 9] (fun v7 v8 v9 wr => ∃ (i : Nat) (AA AV : Option Addr) (cA cV : Nat), i ≤ n ∧ v9 = .int .i64 i ∧ v7 = .slice AA i cA ∧ v8 = .slice AV i cV ∧ Hid (Mny.Own wr wk.heap.size 5 1 AA i cA (byt ((L.take i).map (·.1)))) ∧ Hid (Mny.Own wr wk.heap.size 5 1 AV i cV (byt ((L.take i).map fun p => p.2.getD k 0))) ∧ Hid (∀ g, at_ AA = some g → at_ AV ≠ some g) ∧ Hid (Below wk.heap.size wk wr)) (fun _ _ v9 _ => n - (intOf v9).toNat)
      case atStart => exact ⟨0, none, none, 0, 0, Nat.zero_le _, rfl, rfl, rfl, by rw [List.take_zero]; exact Own.none _ _ _ _, by rw [List.take_zero]; exact Own.none _ _ _ _, hid (fun g h => by cases h), Below.refl _ _⟩
      case round =>
        obtain ⟨i, AA, AV, cA, cV, hi, rfl, rfl, rfl, HA, HV, HDj, HE⟩ := hrel
        have hes := (unhid HE).size
        by_cases hin : i < n
        · have hEw := hid ((unhid HB).trans ((unhid HE).mono hbw))
          obtain ⟨p, hp⟩ : ∃ p, L[i]? = some p := ⟨_, List.getElem?_eq_getElem (by rw [HLL.out]; exact hin)⟩
          obtain ⟨z, d⟩ := p
          obtain ⟨hz8, hd8, hdl⟩ := H8.out _ (List.mem_of_getElem? hp)
          dsimp only at hz8 hd8 hdl
          obtain ⟨g', o', Ad, cd, ea, hg', q0, q1, hle, hrow⟩ := (unhid HL).at hin hp
          injection ea with ea
          injection ea with ea1 ea2
          subst ea1 ea2
          rw [hdl] at q1 hrow
          obtain ⟨gd, od, y, rfl, hgd, hy, hcy⟩ := hrow.byte hkm
          have hyg : d.getD k 0 = y := by rw [List.getD_eq_getElem?_getD, hy]; rfl
          have CX : Hid (∀ W, Below w.heap.size w W → W.cell? ⟨g1, o1 + i * 2, none⟩ = some (.int .u8 (z : Int)) ∧ W.cell? ⟨g1, o1 + i * 2 + 1, none⟩ = some (.slice (some ⟨gd, od, none⟩) m cd) ∧ W.cell? ⟨gd, od + k, none⟩ = some (.int .u8 (y : Int))) := hid fun W hW =>
            ⟨((hW.mono hD).cell (p := ⟨g1, o1 + i * 2, none⟩) hg1).trans q0, ((hW.mono hD).cell (p := ⟨g1, o1 + i * 2 + 1, none⟩) hg1).trans q1, ((hW.mono hD).cell (p := ⟨gd, od + k, none⟩) hgd).trans hcy⟩
          have hta : (L.take (i + 1)) = L.take i ++ [(z, d)] := by rw [List.take_add_one, hp]; rfl
          have HTA := hid hta; have HYG := hid hyg
          have cx1 := (CX.out _ (unhid hEw)).1
          have j1 : (0 : Int) ≤ (i : Int) := by omega
          have j2 : (i : Int) < (n : Int) := by omega
          clear hp hz8 hdl hd8 q0 q1 hle hrow hy hcy hyg hta
          go_wp2_with (at_builtin; refine halt_at (fun K hK => ?_))
          refine go_on hK ?_; clear hK
          refine app_step bytR rfl (.tmp 25) (.tmp 31) rfl rfl ((unhid HA).alloc _) rfl (Row.lit_at _ _ _ 1 _ (byt [z]) rfl rfl rfl) (byt_one _) (by simp [maxLen]; omega) (by omega) (by simp; omega) ?_
          intro A2 c2 w5 o5 g5 l5
          have kg5 : Kept (fun j => at_ AA = some j) wr w5 := ((Kept.refl (fun j => at_ AA = some j) wr).alloc _).trans (Kept.of_grown g5) (fun j _ h => h)
          have b5 : Below wk.heap.size wk w5 := Below.grown ((unhid HE).alloc hes _) g5 (by simp; omega) (fun q hq => ((unhid HA).from_ q hq).1)
          have v5 := (unhid HV).kept kg5 (fun g hg h => HDj.out g h hg)
          have d5 : ∀ g, at_ A2 = some g → at_ AV ≠ some g := fun g hg hg' => by
            rcases l5 with l | l
            · exact HDj.out g (l ▸ hg) hg'
            · rw [l] at hg; have e1 := Option.some.inj hg; have := ((unhid HV).from_ g hg').2; simp at e1; omega
          rw [← byt_append, show (L.take i).map (·.1) ++ [z] = (L.take (i + 1)).map (·.1) by rw [HTA.out, List.map_append]; rfl] at o5
          have HA5 := hid o5; have HB5 := hid b5; have HV5 := hid v5; have HD5 := hid d5
          have hs5 := b5.size
          have hEw5 := hid ((unhid HB).trans (b5.mono hbw))
          obtain ⟨_, cx2, cx3⟩ := CX.out _ (unhid hEw5)
          clear o5 b5 v5 d5 g5 l5 kg5 HA HV HDj HE cx1 hEw hes
          go_wp2_with (at_builtin; refine halt_at (fun K hK => ?_))
          refine go_on hK ?_; clear hK
          refine app_step bytR rfl (.tmp 33) (.tmp 42) rfl rfl ((unhid HV5).alloc _) rfl (Row.lit_at _ _ _ 1 _ (byt [y]) rfl rfl rfl) (byt_one _) (by simp [maxLen]; omega) (by omega) (by simp; omega) ?_
          intro A3 c3 w6 o6 g6 l6
          have kg6 : Kept (fun j => at_ AV = some j) w5 w6 := ((Kept.refl (fun j => at_ AV = some j) w5).alloc _).trans (Kept.of_grown g6) (fun j _ h => h)
          have b6 : Below wk.heap.size wk w6 := Below.grown ((unhid HB5).alloc hs5 _) g6 (by simp; omega) (fun q hq => ((unhid HV5).from_ q hq).1)
          have a6 := (unhid HA5).kept kg6 (fun g hg h => HD5.out g hg h)
          have d6 : ∀ g, at_ A2 = some g → at_ A3 ≠ some g := fun g hg hg' => by
            rcases l6 with l | l
            · exact HD5.out g hg (l ▸ hg')
            · rw [l] at hg'; have e1 := Option.some.inj hg'; have := ((unhid HA5).from_ g hg).2; simp at e1; omega
          rw [← byt_append, show ((L.take i).map fun p => p.2.getD k 0) ++ [y] = (L.take (i + 1)).map (fun p => p.2.getD k 0) by rw [HTA.out, List.map_append, ← HYG.out]; rfl] at o6
          have HA6 := hid a6; have HB6 := hid b6; have HV6 := hid o6; have HD6 := hid d6
          clear o6 b6 a6 d6 g6 l6 kg6 HA5 HV5 HD5 HB5 cx2 cx3 hEw5 hs5
          go_wp2_with fail
          go_roundw
          case rel => exact ⟨i + 1, A2, A3, c2, c3, by omega, by go_num, rfl, rfl, HA6, HV6, HD6, HB6⟩
          case measure => simp [intOf]; omega
        · have hin2 : n = i := by omega
          subst hin2
          have j2 : ¬ (n : Int) < (n : Int) := by omega
          have htk : L.take n = L := List.take_of_length_le (by rw [HLL.out]; exact Nat.le_refl _)
          rw [htk] at HA HV
          have CO := hid (rthrough_any (L.map (·.1)) (L.map fun p => p.2.getD k 0) x AA AV n cA cV wr.heap.size wr (Row.of_own (unhid HA)) (Row.of_own (unhid HV)) (Nat.le_refl _) h1 (by omega)
            (by intro z hz; obtain ⟨p, hp, rfl⟩ := List.mem_map.1 hz; exact (H8.out p hp).1)
            (by intro z hz; obtain ⟨p, hp, rfl⟩ := List.mem_map.1 hz; exact getD_by (H8.out p hp).2.1 k) HND.out hx)
          have hjs := joinedN_succ L x k
          obtain ⟨y, hy⟩ : ∃ y, Fld.newtN (L.map (·.1)) (L.map fun p => p.2.getD k 0) x = y := ⟨_, rfl⟩
          rw [hy] at CO hjs
          have HJS := hid hjs
          have HOr := hid ((unhid HO).below (unhid HE) (Nat.le_refl _))
          have HBr := hid ((unhid HB).trans ((unhid HE).mono hbw))
          clear htk HA HV HDj hy hjs
          go_wp2_with fail
          refine (unhid CO).mono ?_
          rintro e w5 ⟨rfl, hb5⟩
          have hwr := (unhid HBr).size
          have HO5 := hid ((unhid HOr).below hb5 (Nat.le_refl _))
          have HB5 := hid ((unhid HBr).trans (hb5.mono hwr))
          have hs5 := (unhid HB5).size
          clear hb5 CO HOr HBr
          go_wp2_with (at_builtin; refine halt_at (fun K hK => ?_))
          refine go_on hK ?_; clear hK
          refine app_step bytR rfl (.tmp 44) (.tmp 49) rfl rfl ((unhid HO5).alloc _) rfl (Row.lit_at _ _ _ 1 _ (byt [y]) rfl rfl rfl) (byt_one _) (by simp [maxLen]; omega) (by omega) (by simp; omega) ?_
          intro A2 c2 w6 o6 g6 l6
          have b6 : Below w.heap.size w w6 := Below.grown ((unhid HB5).alloc hs5 _) g6 (by simp; omega) (fun q hq => ((unhid HO5).from_ q hq).1)
          rw [← byt_append, ← HJS.out] at o6
          have HO6 := hid o6; have HB6 := hid b6
          clear o6 b6 g6 l6 HO5 HB5
          go_wp2_with fail
          go_roundw
          case rel => exact ⟨k + 1, A2, c2, by omega, by go_num, rfl, HO6, HB6⟩
          case measure => simp [intOf]; omega
    · have hkm2 : m = k := by omega
      subst hkm2
      have i2 : ¬ (m : Int) < (m : Int) := by omega
      go_wp2_with fail
      go_ret
      exact ⟨AO, cO, rfl, Row.of_own (unhid HO), unhid HB⟩
theorem near_len {w : World} {D n : Nat} {A : Option Addr} {L : List (Nat × List Nat)} (h : Near w A n 2 1) (hL : ShR w D A n L) : ∀ p ∈ L, p.2.length ≤ 140737488351232 := by
  intro p hp
  obtain ⟨i, hi, e⟩ := List.getElem_of_mem hp
  have hl : L.length = n := by obtain ⟨_, _, h, _⟩ := hL; exact h
  obtain ⟨x, d⟩ := p
  obtain ⟨g, o, A', c', rfl, _, _, q1, _, _⟩ := hL.at (show i < n by omega) (show L[i]? = some (x, d) by rw [List.getElem?_eq_getElem hi, e])
  refine h ⟨g, o, none⟩ i A' d.length c' rfl (by omega) ?_
  rw [add_none, add_none]
  exact q1
set_option maxHeartbeats 4000000 in
set_option maxRecDepth 100000 in
theorem shareJoins_walk (A0 : Option Addr) (n0 c0 m0 : Nat) (w : World) (s0 : Sh.ok w w.heap.size (.slice 2 (shareSh)) m0 [.slice A0 n0 c0]) (rb0 : n0 * 32 ≤ 140737488351232) (nr0 : Near w A0 n0 2 1) (hH : Hdl w) :
    Calls Tryd.prog 5 #[.slice A0 n0 c0] w fun e w' => e = .returned (.bool true) ∧ Below w.heap.size w w' := by
  obtain ⟨A, n, c, L, hv, hc1, hL, h8, hm⟩ := Sh.shares s0
  injection hv with e1 e2 e3
  subst e1 e2 e3
  have hn0 : n0 ≤ 9223372036854775807 := by omega
  have hll : L.length = n0 := by obtain ⟨_, _, h, _⟩ := hL; exact h
  have L8 : Hid (∀ p ∈ L, p.1 < 256 ∧ By8s p.2 ∧ p.2.length ≤ 140737488351232) := hid fun p hp => ⟨(h8 p hp).1, (h8 p hp).2.1, near_len nr0 hL p hp⟩
  have HL := hid hL; have HLL := hid hll; have HH := hid hH
  have BN : Hid (∀ W : World, Calls Tryd.prog 23 #[.slice none 0 0, .slice none 0 0] W fun e W' => e = .returned (.bool true) ∧ Below W.heap.size W W') := hid fun W => by
    refine (bytes_any none none 0 0 0 0 W.heap.size W.heap.size [] [] W (Row.nil _ _ _ _) (Row.nil _ _ _ _) (by decide) (by decide)).mono ?_
    rintro e W' ⟨kk, rfl, rfl⟩
    exact ⟨by simp, (Below.refl _ _).drewN kk⟩
  have ER : Hid (∀ (er : Int), er ≠ 0 → ∀ W, Below w.heap.size w W → Calls Tryd.prog 11 #[.iface 23 (.int .i64 er), .int .i64 er] W fun e W' => e = .returned (.bool true) ∧ Below W.heap.size W W') := hid fun er h0 W hW => by
    refine (error_err er er h0 W ((unhid HH).of_below hW)).mono ?_
    rintro e W' ⟨rfl, hb⟩
    exact ⟨by rw [show (er == er) = true by simp], hb⟩
  clear s0 hL h8 hm hc1 hll rb0 nr0 hH
  go_enter Tryd.func5, Tryd.ntmps5
  by_cases t1 : (n0 : Int) < 1
  · go_wp2_with fail
    refine (join_range A0 n0 c0 _ (by omega)).mono ?_
    rintro e w1 ⟨rfl, rfl⟩
    go_wp2_with fail
    refine (ER.out 2 (by decide) _ (Below.refl _ _)).mono ?_
    rintro e w2 ⟨rfl, hb2⟩
    have E2 := hid hb2
    clear hb2 t1
    go_wp2_with fail
    refine (BN.out _).mono ?_
    rintro e w5 ⟨rfl, hb5⟩
    have E5 := hid ((unhid E2).trans (hb5.mono (unhid E2).size))
    clear hb5
    go_wp2_with fail
    refine (join_fact _).mono ?_
    rintro e w6 ⟨A6, rfl, r6, hb6⟩
    obtain ⟨g6, o6, y6, rfl, hg6, hy6, hc6⟩ := r6.byte (i := 0) (by decide)
    obtain rfl : 9 = y6 := by simpa using hy6
    have E6 := hid ((unhid E5).trans (hb6.mono (unhid E5).size))
    simp at hc6
    clear hb6 r6 hy6
    go_wp2_with fail
    go_ret
    exact ⟨by simp, unhid E6⟩
  by_cases t2 : (20 : Int) < (n0 : Int)
  · go_wp2_with fail
    refine (join_range A0 n0 c0 _ (by omega)).mono ?_
    rintro e w1 ⟨rfl, rfl⟩
    go_wp2_with fail
    refine (ER.out 2 (by decide) _ (Below.refl _ _)).mono ?_
    rintro e w2 ⟨rfl, hb2⟩
    have E2 := hid hb2
    clear hb2 t1 t2
    go_wp2_with fail
    refine (BN.out _).mono ?_
    rintro e w5 ⟨rfl, hb5⟩
    have E5 := hid ((unhid E2).trans (hb5.mono (unhid E2).size))
    clear hb5
    go_wp2_with fail
    refine (join_fact _).mono ?_
    rintro e w6 ⟨A6, rfl, r6, hb6⟩
    obtain ⟨g6, o6, y6, rfl, hg6, hy6, hc6⟩ := r6.byte (i := 0) (by decide)
    obtain rfl : 9 = y6 := by simpa using hy6
    have E6 := hid ((unhid E5).trans (hb6.mono (unhid E5).size))
    simp at hc6
    clear hb6 r6 hy6
    go_wp2_with fail
    go_ret
    exact ⟨by simp, unhid E6⟩
  have hsf : Calls Tryd.prog 20 #[.slice A0 n0 c0, .int .i64 1, .int .i64 255] w fun e w' => e = .returned (.int .i64 (faultN L 1 255)) ∧ Below w.heap.size w w' :=
    sfault_any L 1 255 A0 n0 c0 w.heap.size w (unhid HL) (Nat.le_refl _) hn0 (fun p hp => ⟨(L8.out p hp).1, (L8.out p hp).2.1, by have := (L8.out p hp).2.2; omega⟩)
  obtain ⟨r, hr⟩ : ∃ r, faultN L 1 255 = r := ⟨_, rfl⟩
  rw [hr] at hsf
  have SF := hid hsf; have HR := hid hr
  have hn1 : 1 ≤ n0 := by omega
  have hn2 : n0 ≤ 20 := by omega
  clear hsf hr
  by_cases hr0 : r = 0
  rotate_left
  · have t3 : (r == 0) = false := by simp; exact hr0
    have JE := hid fun W (hW : Below w.heap.size w W) => join_err L A0 n0 c0 w.heap.size r W ((unhid HL).below hW) hW.size hn1 hn2 L8.out HR.out hr0
    have ERr := hid (ER.out r hr0)
    clear hr0
    go_wp2_with fail
    refine (unhid SF).mono ?_
    rintro e w1 ⟨rfl, hb1⟩
    have E1 := hid hb1
    clear hb1 t1 t2
    go_wp2_with fail
    refine (JE.out _ (unhid E1)).mono ?_
    rintro e w2 ⟨rfl, hb2⟩
    have E2 := hid ((unhid E1).trans (hb2.mono (unhid E1).size))
    clear hb2
    go_wp2_with fail
    refine (ERr.out _ (unhid E2)).mono ?_
    rintro e w3 ⟨rfl, hb3⟩
    have E3 := hid ((unhid E2).trans (hb3.mono (unhid E2).size))
    clear hb3 t3
    go_wp2_with fail
    refine (BN.out _).mono ?_
    rintro e w5 ⟨rfl, hb5⟩
    have E5 := hid ((unhid E3).trans (hb5.mono (unhid E3).size))
    clear hb5
    go_wp2_with fail
    refine (join_fact _).mono ?_
    rintro e w6 ⟨A6, rfl, r6, hb6⟩
    obtain ⟨g6, o6, y6, rfl, hg6, hy6, hc6⟩ := r6.byte (i := 0) (by decide)
    obtain rfl : 9 = y6 := by simpa using hy6
    have E6 := hid ((unhid E5).trans (hb6.mono (unhid E5).size))
    simp at hc6
    clear hb6 r6 hy6
    go_wp2_with fail
    go_ret
    exact ⟨by simp, unhid E6⟩
  subst hr0
  obtain ⟨hfa, hnd⟩ := fault_none HR.out
  obtain ⟨p0, hp0⟩ : ∃ p, L[0]? = some p := ⟨_, List.getElem?_eq_getElem (by rw [HLL.out]; omega)⟩
  obtain ⟨x0, d0⟩ := p0
  have hg0 : L.getD 0 (0, []) = (x0, d0) := by rw [List.getD_eq_getElem?_getD, hp0]; rfl
  have hd0 := (L8.out _ (List.mem_of_getElem? hp0)).2.2
  dsimp only at hd0
  rw [hg0] at hfa
  obtain ⟨m, hm⟩ : ∃ m, d0.length = m := ⟨_, rfl⟩
  rw [hm] at hd0
  have FL : Hid (∀ p ∈ L, 1 ≤ p.1 ∧ p.1 < 256 ∧ p.2.length = m ∧ By8s p.2) := hid fun p hp => by
    have h := hfa p hp
    exact ⟨h.1, (L8.out p hp).1, by rw [h.2.2]; exact hm, (L8.out p hp).2.1⟩
  have HND := hid hnd
  have JN := hid fun W (hW : Below w.heap.size w W) => joined_any L 0 m A0 n0 c0 w.heap.size W ((unhid HL).below hW) hW.size hn1 hn2 hd0 (by decide) (fun p hp => ⟨(FL.out p hp).2.1, (FL.out p hp).2.2.2, (FL.out p hp).2.2.1⟩) hnd
  have JY := hid fun W (hW : Below w.heap.size w W) => join_yes L A0 n0 c0 w.heap.size m W ((unhid HL).below hW) hW.size hn1 hn2 hd0 FL.out hnd
  have HEQ := hid (joinedN_eq L n0 m HLL.out hn1 (fun p hp => ⟨(FL.out p hp).2.1, (FL.out p hp).2.2.2⟩) hnd)
  clear hfa hnd hp0 hg0 hm
  go_wp2_with fail
  refine (unhid SF).mono ?_
  rintro e w1 ⟨rfl, hb1⟩
  have E1 := hid hb1
  clear hb1 t1 t2
  go_wp2_with fail
  refine (JN.out _ (unhid E1)).mono ?_
  rintro e w2 ⟨AX, cX, rfl, rX, hb2⟩
  have E2 := hid ((unhid E1).trans (hb2.mono (unhid E1).size))
  have X2 := hid rX
  clear hb2 rX
  go_wp2_with fail
  refine (JY.out _ (unhid E2)).mono ?_
  rintro e w3 ⟨AY, rfl, rY, hb3⟩
  rw [HEQ.out] at rY
  have E3 := hid ((unhid E2).trans (hb3.mono (unhid E2).size))
  have X3 := hid ((unhid X2).below hb3)
  have Y3 := hid rY
  have z23 := hb3.size
  clear hb3 rY X2
  go_wp2_with fail
  refine (error_nil 0 _ ((unhid HH).of_below (unhid E3))).mono ?_
  rintro e w4 ⟨rfl, hb4⟩
  rw [show ((0 : Int) == 0) = true from rfl]
  have E4 := hid ((unhid E3).trans (hb4.mono (unhid E3).size))
  have CB : Hid (Calls Tryd.prog 23 #[.slice AY m m, .slice AX m cX] w4 fun e W' => e = .returned (.bool true) ∧ Below w4.heap.size w4 W') := hid (by
    have ra : Row w4 w3.heap.size 1 AY m (((joinedN L 0 m).map fun x : Nat => (x : Int)).map (Value.int .u8)) := by rw [List.map_map]; exact (unhid Y3).below hb4
    have rb : Row w4 w2.heap.size 1 AX m (((joinedN L 0 m).map fun x : Nat => (x : Int)).map (Value.int .u8)) := by rw [List.map_map]; exact (unhid X3).below (hb4.mono z23)
    refine (bytes_any _ _ _ _ _ _ _ _ _ _ _ ra rb (by omega) (by omega)).mono ?_
    rintro e W' ⟨kk, rfl, rfl⟩
    exact ⟨by simp, (Below.refl _ _).drewN kk⟩)
  clear hb4
  go_wp2_with fail
  refine (unhid CB).mono ?_
  rintro e w5 ⟨rfl, hb5⟩
  have E5 := hid ((unhid E4).trans (hb5.mono (unhid E4).size))
  clear hb5 CB
  go_wp2_with fail
  refine (join_fact _).mono ?_
  rintro e w6 ⟨A6, rfl, r6, hb6⟩
  obtain ⟨g6, o6, y6, rfl, hg6, hy6, hc6⟩ := r6.byte (i := 0) (by decide)
  obtain rfl : 9 = y6 := by simpa using hy6
  have E6 := hid ((unhid E5).trans (hb6.mono (unhid E5).size))
  simp at hc6
  clear hb6 r6 hy6
  go_wp2_with fail
  go_ret
  exact ⟨by simp, unhid E6⟩
end Go.Proofs.YtilaipdpbcfhkaaDoor

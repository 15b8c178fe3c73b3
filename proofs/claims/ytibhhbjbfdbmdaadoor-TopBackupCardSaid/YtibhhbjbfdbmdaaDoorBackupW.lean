/- The walk of the law TopBackup. -/
import Derived.Test.YtibhhbjbfdbmdaaDoorBalM
import Derived.Test.YtibhhbjbfdbmdaaDoorPickW
import Derived.Test.YtibhhbjbfdbmdaaDoorTold
import Derived.OpenShut
namespace Go.Proofs.YtibhhbjbfdbmdaaDoor
set_option linter.unusedVariables false
set_option linter.unusedSimpArgs false
open Go.RowKit Go.Mny
theorem noGuardD : Tryd.prog.eqGuardType Tryd.prog.depth 23 = false := by kernel_rfl
theorem bytes_byt (l : List Nat) : bytes l = byt l := by unfold bytes up; rw [List.map_map]; rfl
theorem mat_more {w : World} {D D' n : Nat} {A : Option Addr} {M : List (List Nat)} (h : Mat w D A n M) (hD : D ≤ D') : Mat w D' A n M := by
  obtain ⟨es, h1, h2, h3⟩ := h
  refine ⟨es, h1.more hD, h2, fun i m hm => ?_⟩
  obtain ⟨A', c', q1, q2, q3⟩ := h3 i m hm
  exact ⟨A', c', q1, q2, q3.more hD⟩
theorem errV_val (n : Int) : errV n = errVal n := rfl
theorem lock_strip (g g' : Nat) (seed : List Nat) : (lockOps g seed).map stripO = (lockOps g' seed).map stripO := rfl
theorem lock_lens (g : Nat) (seed : List Nat) : ∀ o ∈ lockOps g seed, o.len ≤ 1000 := by
  intro o ho
  unfold lockOps at ho
  simp only [List.mem_cons, List.not_mem_nil, or_false] at ho
  rcases ho with rfl | rfl
  · show (32 : Nat) ≤ 1000; decide
  · show (0 : Nat) ≤ 1000; decide
theorem own_self (g : Nat) (seed : List Nat) : ownI (lockOps 0 seed) (lockOps g seed) = 0 := by
  unfold ownI
  rw [sameL_lock 0 g, if_pos (sameL_refl _)]
set_option maxRecDepth 100000 in
/-- one share is joined -/
theorem join_one (w : World) :
    Calls Tryd.prog 7 #[.slice (some ⟨w.heap.size + 1, 0, none⟩) 1 1] ((w.alloc (.cells #[.int .u8 9] 5)).alloc (.cells #[.int .u8 3, .slice (some ⟨w.heap.size, 0, none⟩) 1 1] 41)) fun e w' => ∃ A2, e = .returned (.tuple #[.slice A2 1 1, .nilIface]) ∧ Below w.heap.size w w' := by
  have e1 : (w.alloc (.cells #[.int .u8 9] 5)).heap.size = w.heap.size + 1 := by simp
  have B0 := Blk.new w 5 #[.int .u8 9]
  have B1 := Blk.new (w.alloc (.cells #[.int .u8 9] 5)) 41 #[.int .u8 3, .slice (some ⟨w.heap.size, 0, none⟩) 1 1]
  rw [e1] at B1
  have F0 := B0.alloc (.cells #[.int .u8 3, .slice (some ⟨w.heap.size, 0, none⟩) 1 1] 41)
  have EE : Below w.heap.size w ((w.alloc (.cells #[.int .u8 9] 5)).alloc (.cells #[.int .u8 3, .slice (some ⟨w.heap.size, 0, none⟩) 1 1] 41)) := ((Below.refl _ _).alloc (Nat.le_refl _) _).alloc (by simp) _
  obtain ⟨w2, hw2⟩ : ∃ w2, ((w.alloc (.cells #[.int .u8 9] 5)).alloc (.cells #[.int .u8 3, .slice (some ⟨w.heap.size, 0, none⟩) 1 1] 41)) = w2 := ⟨_, rfl⟩
  rw [hw2] at B1 F0 EE ⊢
  have SR : ShR w2 w2.heap.size (some ⟨w.heap.size + 1, 0, none⟩) 1 [(3, [9])] := by
    refine ⟨[.int .u8 3, .slice (some ⟨w.heap.size, 0, none⟩) 1 1], ⟨rfl, fun _ => ⟨_, 0, rfl, B1.lt', fun j hj => ?_⟩⟩, rfl, fun i x d h => ?_⟩
    · rw [Nat.zero_add, B1.cell]; simp
    · have hi : i = 0 := by
        have := (List.getElem?_eq_some_iff.1 h).1
        simp at this; exact this
      subst hi
      simp only [List.getElem?_cons_zero, Option.some.injEq, Prod.mk.injEq] at h
      obtain ⟨rfl, rfl⟩ := h
      refine ⟨some ⟨w.heap.size, 0, none⟩, 1, rfl, rfl, Nat.le_refl _, ⟨rfl, fun _ => ⟨_, 0, rfl, F0.lt', fun j hj => ?_⟩⟩⟩
      rw [Nat.zero_add, F0.cell]
      have : j = 0 := by simp at hj; exact hj
      subst this; rfl
  refine (join_yes [(3, [9])] _ 1 1 w2.heap.size 1 w2 SR (Nat.le_refl _) (Nat.le_refl _) (by decide) (by decide) (fun p hp => by
    rw [List.mem_singleton.1 hp]
    exact ⟨by decide, by decide, rfl, fun x hx => by rw [List.mem_singleton.1 hx]; decide⟩) (by decide)).mono ?_
  rintro e w3 ⟨A2, rfl, _, hb⟩
  exact ⟨A2, rfl, EE.trans (hb.mono EE.size)⟩
set_option maxHeartbeats 16000000 in
set_option maxRecDepth 100000 in
theorem backup_any (seed : List Nat) (a1 : Int) (A2 : Option Addr) (n2 c2 : Nat) (M : List (List Nat)) (A3 : Option Addr) (n3 c3 : Nat) (l3 : List Int) (A4 : Option Addr) (n4 c4 : Nat) (cs : List CoC) (w : World) (hs : seed.length = 32) (s8 : B8 seed) (hM : Mat w w.heap.size A2 n2 M) (m8 : ∀ r ∈ M, By8s r) (hn2 : n2 ≤ 9223372036854775807) (r3 : Row w w.heap.size 1 A3 n3 (l3.map (Value.int .i64))) (hn3 : n3 ≤ 9223372036854775807) (h4 : Coins w w.heap.size A4 n4 cs) (hL : Laid w) (h0 : 1 < w.heap.size) (hH : Hdl w) :
    Calls Tryd.prog 3 #[.agg (cellsOf .u8 (up seed)), .int .i64 a1, .slice A2 n2 c2, .slice A3 n3 c3, .slice A4 n4 c4] w fun e w' => e = .returned (.bool true) ∧ Below w.heap.size w w' := by
  have HL := hid hL; have HS := hid hs; have S8 := hid s8; have HM := hid hM; have M8 := hid m8; have R3 := hid r3; have H4 := hid h4; have HH := hid hH
  have SL := hid (show (up seed).length = 32 by rw [up_len]; exact hs)
  have SB := hid (show By8s seed from s8)
  obtain ⟨er, her⟩ : ∃ e, splitE 32 a1 M = e := ⟨_, rfl⟩
  have HER := hid her
  clear hL hs s8 hM m8 r3 h4 hH her
  go_enter Tryd.func3, Tryd.ntmps3
  go_wp2_with (with_reducible refine halt_op (some 5) (.box _ _) (fun K hK => ?_))
  refine go_on hK ?_; clear hK
  refine box_arr (k := .u8) (l := up seed) rfl (.tmp 0) rfl rfl ?_
  rintro g5 w1 hg5 s1 b1 e1
  have E1 := hid (e1.mono (show w.heap.size ≤ g5 by omega))
  have hg51 : g5 < w1.heap.size := by omega
  have LS : Hid (∀ W, Below w1.heap.size w1 W → Blk W g5 23 (cellsOf .u8 (up seed))) := fun W h => b1.below h hg51
  have hs1 := (unhid E1).size
  clear b1 e1 hg5 s1
  go_wp2_with fail
  refine wp_region_held_drew (S := fun w' => Below w1.heap.size w1 w') (by kernel_rfl) ((Below.refl _ _).drew) (fun hS => ?_)
  refine wpAnyH_take (i := 0) (oi := { dst := some 27, op := Op.load 23 (Operand.tmp 5), type := 23, pos := "top.go:177", after := #[], guard := none }) (v := .agg (cellsOf .u8 (up seed))) rfl (by kernel_rfl) (by kernel_rfl) (by kernel_rfl) (fun _ _ _ h => h) (yields_load digT rfl (.tmp 5) rfl rfl SL.out (fun w h => (LS.out w h).range)) hS ?_
  try simp only [Act.put, List.setIfInBounds_toArray, List.set_cons_zero, List.set_cons_succ]
  refine wpAnyH_take (i := 1) (oi := { dst := some 28, op := Op.load 23 (Operand.tmp 5), type := 23, pos := "top.go:177", after := #[], guard := none }) (v := .agg (cellsOf .u8 (up seed))) rfl (by kernel_rfl) (by kernel_rfl) (by kernel_rfl) (fun _ _ _ h => h) (yields_load digT rfl (.tmp 5) rfl rfl SL.out (fun w h => (LS.out w h).range)) hS ?_
  try simp only [Act.put, List.setIfInBounds_toArray, List.set_cons_zero, List.set_cons_succ]
  have hbd : Below w1.heap.size w1 w1.drew := (Below.refl _ _).drew
  obtain ⟨w1d, hw1d⟩ : ∃ W, W = w1.drew := ⟨_, rfl⟩
  rw [← hw1d] at hbd
  rw [← hw1d]
  clear hw1d hS
  refine wpAnyH_ready (rs := [2]) (by kernel_rfl) (by simp) ?_
  refine AllReadyH.cons (o := _) rfl (fun K hK => ?_) AllReadyH.nil
  go_simp
  refine (wlock_any seed _ HS.out S8.out ((unhid HL).below ((unhid E1).trans (hbd.mono hs1)) h0) (by have := hbd.size; omega)).mono ?_
  rintro e w2 ⟨gl, gk, rfl, hop, hq2⟩
  have h2 := hbd.trans (hq2.mono hbd.size)
  have OP := hid hop
  clear hq2 hop hbd
  go_wp2_with fail
  refine hK.out _ _ h2 (fun hS1 => ?_)
  refine wpAnyH_take (i := 3) (oi := { dst := some 30, op := Op.build 31 #[(1, Operand.tmp 29)], type := 31, pos := "top.go:177", after := #[{ on := 2, ground := Ground.data }], guard := none }) (v := .agg (outL 0 (some ⟨gl, 0, none⟩) 2 2).toArray) rfl (by kernel_rfl) (by kernel_rfl) (by kernel_rfl) (fun _ _ _ h => h) (yields_of rfl (fun w => by go_simp; rfl)) hS1 ?_
  try simp only [Act.put, List.setIfInBounds_toArray, List.set_cons_zero, List.set_cons_succ]
  refine wpAnyH_ready (rs := [4]) (by kernel_rfl) (by simp) ?_
  refine AllReadyH.cons (o := _) rfl (fun K hK => ?_) AllReadyH.nil
  go_simp
  refine (wOwns_any seed (lockOps gk seed) 0 _ 2 2 w2.heap.size w2 HS.out S8.out (unhid OP) (Nat.le_refl _) ((unhid HL).below ((unhid E1).trans (h2.mono hs1)) h0) (by have := h2.size; omega)).mono ?_
  rintro e w3 ⟨rfl, hq3⟩
  rw [own_self]
  have h3 := h2.trans (hq3.mono h2.size)
  clear hq3 OP
  go_wp2_with fail
  refine hK.out _ _ h3 (fun _ => ?_)
  refine wpAnyH_ready (rs := [5]) (by kernel_rfl) (by simp) ?_
  refine AllReadyH.cons (o := _) rfl (fun K hK => ?_) AllReadyH.nil
  go_simp
  refine hK.out _ _ h3 (fun _ => ?_)
  refine wpAnyH_done (by kernel_rfl) ?_ _
  have B3 := hid h3
  have hs3 := h3.size
  clear h3 h2
  go_wp2_with (with_reducible refine halt_op (some 35) (.load _ _) (fun K hK => ?_))
  refine go_on hK ?_; clear hK
  refine load_arr digT rfl (.tmp 5) rfl rfl (LS.out w3 (unhid B3)) SL.out ?_
  go_wp2_with fail
  refine (wlock_any seed _ HS.out S8.out ((unhid HL).below ((unhid E1).trans ((unhid B3).mono hs1)) h0) (by omega)).mono ?_
  rintro e w4 ⟨gl', gk', rfl, _, hq4⟩
  have B4 := hid ((unhid B3).trans (hq4.mono hs3))
  have E4 := hid ((unhid E1).trans ((unhid B4).mono hs1))
  have hs4 := (unhid B4).size
  clear hq4 B3
  have R0 : Hid (Row w4 w4.heap.size 1 (some ⟨g5, 0, none⟩) 32 (byt seed)) := by
    have h1 := Row.of_blk (LS.out w4 (unhid B4))
    rw [up_len, HS.out] at h1
    show Row _ _ _ _ _ _
    rw [← bytes_byt]; exact h1
  by_cases he : er = 0
  case neg =>
    have NO := hid (split_no M (some ⟨g5, 0, none⟩) A2 32 32 n2 c2 _ a1 w4 ((unhid HM).below (unhid E4)) hn2 (by rw [HER.out]; exact he))
    rw [HER.out] at NO
    clear he
    go_wp2_with fail
    refine (unhid NO).mono ?_
    rintro e w' ⟨rfl, rfl⟩
    go_wp2_with fail
    refine (join_one w4).mono ?_
    rintro e w5 ⟨AJ, rfl, hq5⟩
    have E5 := hid ((unhid E4).trans (hq5.mono (unhid E4).size))
    clear hq5
    go_wp2_with fail
    go_ret
    exact ⟨rfl, unhid E5⟩
  case pos =>
  have h := HER.out
  subst he
  unfold splitE at h
  have p1 : ¬ (a1 < 1 ∨ 20 < a1) := fun h' => by rw [if_pos h'] at h; cases h
  rw [if_neg p1] at h
  have p2 : ¬ (100 < 32 ∨ 20 < M.length) := fun h' => by rw [if_pos h'] at h; cases h
  rw [if_neg p2] at h
  have hml : M.length = n2 := by obtain ⟨_, _, h, _⟩ := unhid HM; exact h
  have p3 : (M.all fun m => decide (m.length = 32)) = true := by
    by_cases h' : (M.all fun m => decide (m.length = 32)) = true
    · exact h'
    · rw [if_neg h'] at h; cases h
  have p4 : Hid (∀ m ∈ M, m.length = 32) := hid fun m hm => of_decide_eq_true (List.all_eq_true.1 p3 m hm)
  obtain ⟨k, rfl⟩ := Int.eq_ofNat_of_zero_le (show 0 ≤ a1 by omega)
  have k1 : 1 ≤ k := by omega
  have k2 : k ≤ 20 := by omega
  have k4 : n2 ≤ 20 := by omega
  have HML := hid hml
  have SS := hid (split_yes seed M (some ⟨g5, 0, none⟩) A2 32 32 n2 c2 _ k w4 (unhid R0) (mat_more ((unhid HM).below (unhid E4)) (unhid E4).size) (Nat.le_refl _) SB.out M8.out k1 k2 (by decide) k4 p4.out)
  clear h p1 p2 p3 hml HER p4 R0
  go_wp2_with fail
  refine (unhid SS).mono ?_
  rintro e w5 ⟨AY, cY, rfl, sY, hb5⟩
  have hyl := splitN_len seed M k
  have Y5 := hid (ShR.of_shs sY)
  have E5 := hid ((unhid E4).trans (hb5.mono (unhid E4).size))
  have B5 := hid ((unhid B4).trans (hb5.mono hs4))
  have z5 := hb5.size
  have hs5 := (unhid E5).size
  clear sY hb5 SS B4
  rw [hyl] at Y5 ⊢
  clear hyl
  by_cases t1 : (n3 : Int) < (n2 : Int) + 1
  case pos =>
    clear z5
    go_wp2_with fail
    refine (join_one w5).mono ?_
    rintro e w6 ⟨AJ, rfl, hq6⟩
    have E6 := hid ((unhid E5).trans (hq6.mono hs5))
    clear hq6
    go_wp2_with fail
    go_ret
    exact ⟨rfl, unhid E6⟩
  case neg =>
  by_cases t2 : (20 : Int) < (n3 : Int)
  case pos =>
    clear z5
    go_wp2_with fail
    refine (join_one w5).mono ?_
    rintro e w6 ⟨AJ, rfl, hq6⟩
    have E6 := hid ((unhid E5).trans (hq6.mono hs5))
    clear hq6
    go_wp2_with fail
    go_ret
    exact ⟨rfl, unhid E6⟩
  case neg =>
  go_wp2_with fail
  have HT12 : Hid (n2 + 1 ≤ n3 ∧ n3 ≤ 20) := hid (by omega)
  clear t1 t2
  go_loopw [16, 17] (fun v16 v17 wr => ∃ (i : Nat) (qs : List Nat) (AO : Option Addr) (cO : Nat), i ≤ n3 ∧ v17 = .int .i64 i ∧ v16 = .slice AO i cO ∧ Hid (Pik wr w5.heap.size 41 w5.heap.size AO i cO (picks seed M qs)) ∧ Hid (l3.take i = qs.map (fun x : Nat => (x : Int))) ∧ Hid (qs.Nodup) ∧ Hid (∀ q ∈ qs, q < k) ∧ Hid (Below w5.heap.size w5 wr)) (fun _ v17 _ => n3 - (intOf v17).toNat)
  case atStart => exact ⟨0, [], none, 0, Nat.zero_le _, rfl, rfl, Pik.none _ _ _ _, hid rfl, hid List.nodup_nil, hid (fun q hq => by cases hq), Below.refl _ _⟩
  case round =>
    obtain ⟨i, qs, AO, cO, hi, rfl, rfl, HO, HT, HN, HK, HB⟩ := hrel
    have hzb := (unhid HB).size
    by_cases hlt : i < n3
    · have i1 : (0 : Int) ≤ (i : Int) := by omega
      have i2 : (i : Int) < (n3 : Int) := by omega
      obtain ⟨g, o, z, rfl, hg, hz, hcz⟩ := row_int (unhid R3) hlt
      have hgw : g < w5.heap.size := by omega
      have HC3 : Hid (∀ W, Below w5.heap.size w5 W → W.cell? ⟨g, o + i, none⟩ = some (.int .i64 z)) := hid fun W hW => (hW.cell (p := ⟨g, o + i, none⟩) hgw).trans (((unhid E5).cell (p := ⟨g, o + i, none⟩) hg).trans hcz)
      have hcw := HC3.out _ (unhid HB)
      have HZ := hid hz
      clear hz hcz
      by_cases u1 : z < 0
      · clear HC3
        go_wp2_with fail
        go_ret
        exact ⟨rfl, (unhid E5).trans ((unhid HB).mono hs5)⟩
      by_cases u2 : (k : Int) ≤ z
      · clear HC3
        go_wp2_with fail
        go_ret
        exact ⟨rfl, (unhid E5).trans ((unhid HB).mono hs5)⟩
      · obtain ⟨q, rfl⟩ := Int.eq_ofNat_of_zero_le (show 0 ≤ z by omega)
        have hqk : q < k := by omega
        obtain ⟨wk, hwk⟩ : ∃ wk : World, wk = wr := ⟨_, rfl⟩
        rw [← hwk] at HO HB hzb hcw
        rw [← hwk]
        clear hwk
        have hql : qs.length = i := by
          have := congrArg List.length HT.out
          have hl3 : l3.length = n3 := by have := (unhid R3).len; rw [List.length_map] at this; omega
          rw [List.length_take, List.length_map, hl3] at this; omega
        have HQL := hid hql
        clear hql
        go_wp2_with fail
        have HQK := hid hqk
        clear hcw u1 u2 hqk
        go_loopw [18] (fun v18 wr => ∃ j : Nat, j ≤ i ∧ v18 = .int .i64 j ∧ Hid (∀ j' x : Nat, j' < j → qs[j']? = some x → x ≠ q) ∧ Hid (Below wk.heap.size wk wr)) (fun v18 _ => i - (intOf v18).toNat)
        case atStart => exact ⟨0, Nat.zero_le _, rfl, fun j' x h => absurd h (Nat.not_lt_zero _), Below.refl _ _⟩
        case round =>
          obtain ⟨j, hj, rfl, HD, HE⟩ := hrel
          have E6 := hid ((unhid HB).trans ((unhid HE).mono hzb))
          have hcw := HC3.out _ (unhid E6)
          by_cases hjl : j < i
          · have j1 : (0 : Int) ≤ (j : Int) := by omega
            have j2 : (j : Int) < (n3 : Int) := by omega
            have j3 : (j : Int) < (i : Int) := by omega
            obtain ⟨y, hy⟩ : ∃ y, qs[j]? = some y := ⟨_, List.getElem?_eq_getElem (by rw [HQL.out]; exact hjl)⟩
            have hly : l3[j]? = some (y : Int) := by
              have h1 : (l3.take i)[j]? = some (y : Int) := by rw [HT.out, List.getElem?_map, hy]; rfl
              rw [List.getElem?_take, if_pos hjl] at h1; exact h1
            obtain ⟨g', o', z', ea, hg', hz', hcz'⟩ := row_int (unhid R3) (show j < n3 by omega)
            injection ea with ea
            injection ea with ea1 ea2
            subst ea1 ea2
            rw [hly] at hz'
            injection hz' with hz'
            subst hz'
            have hcj : wr.cell? ⟨g, o + j, none⟩ = some (.int .i64 (y : Int)) := ((unhid E6).cell (p := ⟨g, o + j, none⟩) hgw).trans (((unhid E5).cell (p := ⟨g, o + j, none⟩) hg).trans hcz')
            have HY := hid hy
            clear hy hly hcz' HZ
            by_cases hyq : y = q
            · have t3 : ((y : Int) == (q : Int)) = true := by simp; omega
              clear hyq
              go_wp2_with fail
              go_quiet (fail)
              go_wp2_with fail
              go_ret
              exact ⟨rfl, ((unhid E5).trans ((unhid E6).mono hs5)).drewN _⟩
            · have t3 : ((y : Int) == (q : Int)) = false := by simp; omega
              have HYQ := hid hyq
              clear hyq
              go_wp2_with fail
              go_quiet (fail)
              go_wp2_with fail
              have HD2 : Hid (∀ j' x : Nat, j' < j + 1 → qs[j']? = some x → x ≠ q) := hid fun j' x h hx => by
                by_cases h' : j' = j
                · rw [h', HY.out] at hx; injection hx with hx; rw [← hx]; exact HYQ.out
                · exact HD.out j' x (by omega) hx
              go_roundw
              case rel =>
                exact ⟨j + 1, by omega, by go_num, HD2, (unhid HE).drewN _⟩
              case measure => simp [intOf]; omega
          · have j3 : ¬ (j : Int) < (i : Int) := by omega
            have hji : j = i := by omega
            have hqk := HQK.out
            subst hji
            have HOw := hid ((unhid HO).below hzb (unhid HE))
            have hzr := (unhid E6).size
            obtain ⟨gy, oy, Ay, cy, rfl, hgy, y0, y1, y2, y3⟩ := ((unhid Y5).below (unhid E6)).at hqk (x := q + 1) (d := datN seed M (q + 1) seed.length) (by unfold splitN; rw [List.getElem?_map, List.getElem?_range hqk]; rfl)
            rw [show ((q + 1 : Nat) : Int) = (q : Int) + 1 by omega] at y0
            obtain ⟨dl, hdl⟩ : ∃ dl, (datN seed M (q + 1) seed.length).length = dl := ⟨_, rfl⟩
            rw [hdl] at y1 y2 y3
            have HY2 := hid y2; have HY3 := hid y3; have HDL := hid hdl
            clear y2 y3 hdl hzb
            go_wp2_with (at_builtin; refine halt_at (fun K hK => ?_))
            refine go_on hK ?_; clear hK
            obtain ⟨es, ho, hl, he⟩ := unhid HOw
            have hes := ho.len
            refine app_step shareS rfl (.tmp 110) (.tmp 118) rfl rfl (ho.alloc _) rfl (Row.lit_full wr _ _ 1 2 wr.heap.size [.int .u8 ((q : Int) + 1), .slice Ay dl cy] rfl rfl rfl) (by intro u hu; simp at hu; rcases hu with rfl | rfl <;> rfl) (by have := HT12.out; simp [maxLen]; omega) (by have := HT12.out; omega) (by simp; omega) ?_
            intro A2' c2' w3' o3 g3 l3'
            have hb3 : Below w5.heap.size w5 w3' := Below.grown ((unhid E6).alloc hzr _) g3 (by simp; omega) (fun q hq => (ho.from_ q hq).1)
            have hbr : Below w5.heap.size wr w3' := Below.grown ((Below.refl _ _).alloc hzr _) g3 (by simp; omega) (fun q hq => (ho.from_ q hq).1)
            have hp3 := Pik.snoc (c' := cy) (A' := Ay) hes hl he hbr (q + 1) (datN seed M (q + 1) seed.length) (by rw [HDL.out]; exact HY2.out) (by rw [HDL.out]; exact unhid HY3) (by rw [HDL.out]; exact o3)
            rw [← picks_snoc] at hp3
            have HP3 := hid hp3; have HB3 := hid hb3
            have HT3 := hid (take_snoc_map HT.out HZ.out)
            have HN3 := hid (nodup_snoc HN.out (q := q) (fun j' x hx => HD.out j' x (by have := (List.getElem?_eq_some_iff.1 hx).1; rw [HQL.out] at this; exact this) hx))
            have HK3 : Hid (∀ x ∈ qs ++ [q], x < k) := hid fun x hx => by
              rcases List.mem_append.1 hx with hx | hx
              · exact HK.out x hx
              · rw [List.mem_singleton] at hx; omega
            clear hp3 hb3 hbr o3 g3 l3' ho hl he hes HOw y0 y1 HY2 HY3 HDL hgy hzr E6 HD HE HC3
            go_wp2_with fail
            go_roundw
            case rel => exact ⟨j + 1, qs ++ [q], A2', c2', by omega, by go_num, rfl, HP3, HT3, HN3, HK3, HB3⟩
            case measure => simp [intOf]; omega
    · have hin : i = n3 := by omega
      subst hin
      have i2 : ¬ (i : Int) < (i : Int) := by omega
      have hl3 : l3.length = i := by have := (unhid R3).len; rw [List.length_map] at this; omega
      have hql : qs.length = i := by
        have := congrArg List.length HT.out
        rw [List.length_take, List.length_map, hl3] at this; omega
      have hTL := tells seed M (qs.map (· + 1)) (by intro x hx; obtain ⟨q, hq, rfl⟩ := List.mem_map.1 hx; have := HK.out q hq; omega) (nodup_up HN.out) SB.out M8.out (by have := HT12.out; rw [HML.out, List.length_map, hql]; omega)
      rw [List.length_map, hql, HS.out] at hTL
      have JY := join_yes (picks seed M qs) AO i cO wr.heap.size 32 wr ((unhid HO).shr hzb) (Nat.le_refl _) (by have := HT12.out; omega) (by have := HT12.out; omega) (by decide) (by
        intro p hp
        obtain ⟨q, hq, rfl⟩ := List.mem_map.1 hp
        have := HK.out q hq
        refine ⟨?_, ?_, ?_, ?_⟩
        · show 1 ≤ q + 1; omega
        · show q + 1 < 256; omega
        · show (datN seed M (q + 1) seed.length).length = 32; rw [datN_len, HS.out]
        · exact datN_by SB.out M8.out _ _) (by rw [picks_fst]; exact nodup_up HN.out)
      unfold JoinP at JY
      rw [picks_fst, picks_snd, HS.out, hTL] at JY
      have HJ := hid JY
      have E6 := hid ((unhid E5).trans ((unhid HB).mono hs5))
      have B6 := hid ((unhid B5).trans ((unhid HB).mono (by omega)))
      clear JY hTL hql hl3
      go_wp2_with fail
      refine (unhid HJ).mono ?_
      rintro e w6 ⟨AJ, rfl, rJ, hb6⟩
      have E7 := hid ((unhid E6).trans (hb6.mono (unhid E6).size))
      have B7 := hid ((unhid B6).trans (hb6.mono (unhid B6).size))
      have RJ : Hid (Row w6 w6.heap.size 1 AJ 32 (bytes seed)) := by
        show Row _ _ _ _ _ _
        rw [bytes_byt]; exact rJ
      clear hb6 rJ HJ E6 B6 HB HO
      go_wp2_with fail
      refine (digestAt_any seed AJ 32 _ _ (unhid RJ) (Nat.le_refl _)).mono ?_
      rintro e w7 ⟨rfl, hb7⟩
      have E8 := hid ((unhid E7).trans (hb7.mono (unhid E7).size))
      have B8' := hid ((unhid B7).trans (hb7.mono (unhid B7).size))
      clear hb7 RJ E7 B7
      go_wp2_with (with_reducible refine halt_op (some 20) (.alloc _) (fun K hK => ?_))
      refine go_on hK ?_; clear hK
      refine alloc_arr digT rfl rfl ?_
      rintro ga w8 hga s8' b8 e8
      refine store_arr digT (l := up seed) rfl (.tmp 20) (.tmp 133) rfl rfl rfl SL.out b8 (by simp [cellsOf]) ?_
      intro w9 b9 g9
      have h9 : Below ga w7 w9 := e8.grown g9 (by omega) (fun q hq => by injection hq with hq; omega)
      have hga9 : ga < w9.heap.size := b9.lt'
      have h79 : w7.heap.size ≤ ga := by omega
      have E9 := hid ((unhid E8).trans (h9.mono (by have := (unhid E8).size; omega)))
      have B9 := hid ((unhid B8').trans (h9.mono (by have := (unhid B8').size; omega)))
      have LA : Hid (∀ W, Below w9.heap.size w9 W → Blk W ga 23 (cellsOf .u8 (up seed))) := fun W h => b9.below h hga9
      have hs9 := (unhid E9).size
      have hb9 := (unhid B9).size
      clear b8 e8 hga s8' b9 g9 h9 E8 B8' h79
      obtain ⟨bx, hbx⟩ : ∃ bx, (balN seed cs).1 = bx := ⟨_, rfl⟩
      obtain ⟨bz, hbz⟩ : ∃ bz, (balN seed cs).2 = bz := ⟨_, rfl⟩
      have BAL : Hid (∀ W, Below w.heap.size w W → Calls Tryd.prog 9 #[.agg (cellsOf .u8 (up seed)), .int .i64 1, .slice A4 n4 c4] W fun e w' => e = .returned (.tuple #[.int .i64 bx, errV bz]) ∧ Below W.heap.size W w') := hid fun W hW => by
        have := balance_any seed cs A4 n4 c4 w.heap.size W HS.out S8.out ((unhid H4).below hW) hW.size ((unhid HL).below hW h0) (Nat.lt_of_lt_of_le h0 hW.size)
        unfold BalP at this
        rw [hbx, hbz] at this
        exact this
      obtain ⟨ev, hev⟩ : ∃ ev, errV bz = ev := ⟨_, rfl⟩
      rw [hev] at BAL
      have HEV := hid hev
      clear hbx hbz hev
      go_wp2_with (with_reducible refine halt_op (some 135) (.load _ _) (fun K hK => ?_))
      refine go_on hK ?_; clear hK
      refine load_arr digT rfl (.tmp 5) rfl rfl (LS.out w9 (unhid B9)) SL.out ?_
      go_wp2_with fail
      refine (BAL.out w9 (unhid E9)).mono ?_
      rintro e wa ⟨rfl, hqa⟩
      have Ea := hid ((unhid E9).trans (hqa.mono hs9))
      have Ba := hid ((unhid B9).trans (hqa.mono hb9))
      have La := hid hqa
      clear hqa E9 B9
      go_wp2_with (with_reducible refine halt_op (some 141) (.load _ _) (fun K hK => ?_))
      refine go_on hK ?_; clear hK
      refine load_arr digT rfl (.tmp 20) rfl rfl (LA.out wa (unhid La)) SL.out ?_
      go_wp2_with fail
      refine (BAL.out wa (unhid Ea)).mono ?_
      rintro e wb ⟨rfl, hqb⟩
      have Eb := hid ((unhid Ea).trans (hqb.mono (unhid Ea).size))
      have Bb := hid ((unhid Ba).trans (hqb.mono (unhid Ba).size))
      have Lb := hid ((unhid La).trans (hqb.mono (unhid La).size))
      clear hqb Ea Ba La BAL
      have TB := hid (sameTold_any bz bz wb ((unhid HH).of_below (unhid Eb)))
      rw [← errV_val, HEV.out] at TB
      go_wp2_with fail
      refine (unhid TB).mono ?_
      rintro e wc ⟨rfl, hqc⟩
      rw [show (bz == bz) = true by simp]
      have Ec := hid ((unhid Eb).trans (hqc.mono (unhid Eb).size))
      have Bc := hid ((unhid Bb).trans (hqc.mono (unhid Bb).size))
      have Lc := hid ((unhid Lb).trans (hqc.mono (unhid Lb).size))
      have hsc := (unhid Ec).size
      clear hqc Eb Bb Lb TB
      go_wp2_with fail
      have hBc := (unhid Bc).size
      have hLc := (unhid Lc).size
      refine wp_region_held_drew (S := fun w' => Below wc.heap.size wc w') (by kernel_rfl) ((Below.refl _ _).drew) (fun hS => ?_)
      refine wpAnyH_take (i := 0) (oi := { dst := some 149, op := Op.load 23 (Operand.tmp 5), type := 23, pos := "top.go:206", after := #[], guard := none }) (v := .agg (cellsOf .u8 (up seed))) rfl (by kernel_rfl) (by kernel_rfl) (by kernel_rfl) (fun _ _ _ h => h) (yields_load digT rfl (.tmp 5) rfl rfl SL.out (fun w h => (LS.out w ((unhid Bc).trans (h.mono hBc))).range)) hS ?_
      try simp only [Act.put, List.setIfInBounds_toArray, List.set_cons_zero, List.set_cons_succ]
      refine wpAnyH_take (i := 2) (oi := { dst := some 151, op := Op.load 23 (Operand.tmp 20), type := 23, pos := "top.go:206", after := #[], guard := none }) (v := .agg (cellsOf .u8 (up seed))) rfl (by kernel_rfl) (by kernel_rfl) (by kernel_rfl) (fun _ _ _ h => h) (yields_load digT rfl (.tmp 20) rfl rfl SL.out (fun w h => (LA.out w ((unhid Lc).trans (h.mono hLc))).range)) hS ?_
      try simp only [Act.put, List.setIfInBounds_toArray, List.set_cons_zero, List.set_cons_succ]
      have hbd : Below wc.heap.size wc wc.drew := (Below.refl _ _).drew
      obtain ⟨wcd, hwcd⟩ : ∃ W, W = wc.drew := ⟨_, rfl⟩
      rw [← hwcd] at hbd
      rw [← hwcd]
      clear hwcd hS
      refine wpAnyH_ready (rs := [1]) (by kernel_rfl) (by simp) ?_
      refine AllReadyH.cons (o := _) rfl (fun K hK => ?_) AllReadyH.nil
      go_simp
      refine (wlock_any seed _ HS.out S8.out ((unhid HL).below ((unhid Ec).trans (hbd.mono hsc)) h0) (by have := hbd.size; omega)).mono ?_
      rintro e wd ⟨gd, kd, rfl, hopd, hqd⟩
      have hd := hbd.trans (hqd.mono hbd.size)
      have OPd := hid hopd
      clear hqd hopd hbd
      go_wp2_with fail
      refine hK.out _ _ hd (fun _ => ?_)
      refine wpAnyH_ready (rs := [3]) (by kernel_rfl) (by simp) ?_
      refine AllReadyH.cons (o := _) rfl (fun K hK => ?_) AllReadyH.nil
      go_simp
      refine (wlock_any seed _ HS.out S8.out ((unhid HL).below ((unhid Ec).trans (hd.mono hsc)) h0) (by have := hd.size; omega)).mono ?_
      rintro e we ⟨ge, ke, rfl, hope, hqe⟩
      have hee := hd.trans (hqe.mono hd.size)
      have OPe := hid hope
      have OPd := hid (((unhid OPd).below hqe).more hqe.size)
      clear hqe hope
      go_wp2_with fail
      refine hK.out _ _ hee (fun _ => ?_)
      refine wpAnyH_ready (rs := [4]) (by kernel_rfl) (by simp) ?_
      refine AllReadyH.cons (o := _) rfl (fun K hK => ?_) AllReadyH.nil
      go_simp
      refine (sameLock_any (lockOps kd seed) (lockOps ke seed) _ _ 2 2 2 we.heap.size we (unhid OPd) (unhid OPe) (Nat.le_refl _) (by decide) (lock_strip kd ke seed) (lock_lens kd seed) (lock_lens ke seed)).mono ?_
      rintro e wf ⟨rfl, hqf⟩
      have hf := hee.trans (hqf.mono hee.size)
      clear hqf OPd OPe
      go_wp2_with fail
      refine hK.out _ _ hf (fun _ => ?_)
      refine wpAnyH_ready (rs := [5]) (by kernel_rfl) (by simp) ?_
      refine AllReadyH.cons (o := _) rfl (fun K hK => ?_) AllReadyH.nil
      go_simp
      refine hK.out _ _ hf (fun _ => ?_)
      refine wpAnyH_done (by kernel_rfl) ?_ _
      have Ef := hid ((unhid Ec).trans (hf.mono hsc))
      have Bf := hid (LS.out wf ((unhid Bc).trans (hf.mono hBc)))
      have Lf := hid (LA.out wf ((unhid Lc).trans (hf.mono hLc)))
      have tx : (bx == bx) = true := by simp
      clear hf hee hd
      go_wp2_with (with_reducible refine halt_op (some 154) (.load _ _) (fun K hK => ?_))
      refine go_on hK ?_; clear hK
      refine load_arr digT rfl (.tmp 20) rfl rfl (unhid Lf) SL.out ?_
      refine load_arr digT rfl (.tmp 5) rfl rfl (unhid Bf) SL.out ?_
      refine eql_arr digT noGuardD rfl (.tmp 154) (.tmp 155) 23 rfl rfl rfl SL.out SL.out (b := true) (by simp) ?_
      go_wp2_with fail
      go_ret
      exact ⟨rfl, unhid Ef⟩
theorem topBackup_walk (l0 : List Int) (a1 : Int) (A2 : Option Addr) (n2 c2 m2 : Nat) (A3 : Option Addr) (n3 c3 : Nat) (l3 : List Int) (A4 : Option Addr) (n4 c4 m4 : Nat) (w : World) (q0 : l0.length = 32) (f0 : ∀ z ∈ l0, (Lit.int .u8 z).wf = true) (f1 : (Lit.int .i64 a1).wf = true) (s2 : Sh.ok w w.heap.size (.slice 1 (.slice 1 (.int .u8))) m2 [.slice A2 n2 c2]) (b3 : n3 ≤ c3) (g3 : c3 ≤ maxLen) (r3 : Row w w.heap.size 1 A3 n3 (l3.map (Value.int .i64))) (f3 : ∀ z ∈ l3, (Lit.int .i64 z).wf = true) (s4 : Sh.ok w w.heap.size (.slice 36 (coinSh)) m4 [.slice A4 n4 c4]) (hL : Laid w) (h0 : 1 < w.heap.size) (hH : Hdl w) :
    Calls Tryd.prog 3 #[.agg (l0.map (Value.int .u8)).toArray, .int .i64 a1, .slice A2 n2 c2, .slice A3 n3 c3, .slice A4 n4 c4] w fun e w' => e = .returned (.bool true) ∧ Below w.heap.size w w' := by
  obtain ⟨seed, rfl, s8⟩ := nats_of f0
  rw [up_len] at q0
  have hn2 : n2 ≤ 9223372036854775807 := by
    obtain ⟨A, n, c, es, f, hv, h1, h2, _⟩ := s2
    simp only [List.cons.injEq, Value.slice.injEq, and_true] at hv
    obtain ⟨_, rfl, rfl⟩ := hv
    unfold maxLen at h2; omega
  obtain ⟨A, n, c, M, hv, hc1, hM, m8, _⟩ := Sh.mat s2
  injection hv with e1 e2 e3
  subst e1 e2 e3
  obtain ⟨A', n', c', cs, hv', _, _, hcs⟩ := Sh.coins s4
  injection hv' with e1 e2 e3
  subst e1 e2 e3
  exact backup_any seed a1 _ _ _ M _ _ _ l3 _ _ _ cs w q0 s8 hM m8 hn2 r3 (by unfold maxLen at g3; omega) hcs hL h0 hH
end Go.Proofs.YtibhhbjbfdbmdaaDoor

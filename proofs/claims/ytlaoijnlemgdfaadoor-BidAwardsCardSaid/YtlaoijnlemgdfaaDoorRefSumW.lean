/- The walk of the reference's Sum. -/
import Derived.Test.YtlaoijnlemgdfaaDoorRefBlockW
import Derived.Maps.RangeWalk
namespace Go.Proofs.YtlaoijnlemgdfaaDoor
set_option linter.unusedVariables false
open Go.RowKit Go.Mny
def zero32' : List Nat := List.replicate 32 0
theorem m_padTo (b : List Nat) (j : Nat) : (b ++ 128 :: List.replicate j 0) ++ [0] = b ++ 128 :: List.replicate (j + 1) 0 := by
  simp [List.replicate_succ']
theorem sum_is (b : List Nat) (z : Nat) (hz : Sh2.zerosFor b.length = z) (hb : b.length * 8 < 18446744073709551616) : (b ++ 128 :: List.replicate z 0) ++ Sh2.be8 (b.length * 8) = b ++ Sh2.pad b.length := by
  rw [Sh2.pad, hz, Nat.mod_eq_of_lt hb]; simp
set_option maxHeartbeats 8000000 in
set_option maxRecDepth 100000 in
theorem rsum_any (b : List Nat) (A : Option Addr) (n c D : Nat) (w : World) (hr : Row w D 1 A n (bytes b)) (hD : D ≤ w.heap.size) (hn : n ≤ 140737488355000) (m8 : B8 b) :
    Calls Tryd.prog 11 #[.slice A n c] w fun e w' => e = .returned (.agg (cellsOf .u8 (up (Sh2.sum b)))) ∧ Below w.heap.size w w' := by
  have hbl : b.length = n := by have := hr.len; rw [bytes_len] at this; omega
  have HR := hid hr; have M8 := hid m8; have HBL := hid hbl
  clear hr m8 hbl
  go_enter Tryd.func11, Tryd.ntmps11
  go_wp2_with (with_reducible refine halt_op (some 2) (.alloc _) (fun K hK => ?_))
  refine go_on hK ?_; clear hK
  refine alloc_arr digT rfl rfl ?_
  rintro gd w1 hgd s1 b1 e1
  have hge : w.heap.size ≤ gd := by omega
  have E1 := hid (e1.mono hge); have B1 := hid b1
  clear hgd e1 b1
  go_wp2_with (at_builtin; refine halt_at (fun K hK => ?_))
  refine go_on hK ?_; clear hK
  refine app_new bytesE rfl (.tmp 11) (.tmp 12) rfl rfl (Own.lit_at w1 (gd + 1) 5 1 0 _ _ [] s1.symm (by omega) (by decide) rfl rfl) rfl (((unhid HR).below ((unhid E1).mono hD)).alloc (by have := (unhid E1).size; omega) _) (bytes_one _) (by simp [maxLen]; omega) (by omega) (by simp; omega) ?_
  intro A2 c2 w2 o2 g2 l2
  have G2 : Below (gd + 1) w1 w2 := Below.grown ((Below.refl _ _).alloc (by omega) _) g2 (by simp; omega) (fun q hq => by have h : gd + 1 = q := Option.some.inj hq; omega)
  have s2 : gd + 1 ≤ w2.heap.size := by have := G2.size; omega
  have B2 := hid ((unhid B1).below G2 (by omega))
  have E2 := hid ((unhid E1).trans (G2.mono (by omega)))
  have O2 := hid o2
  clear B1 E1 o2 g2 l2 G2
  go_wp2_with (at_builtin; refine halt_at (fun K hK => ?_))
  refine go_on hK ?_; clear hK
  refine app_step bytesE rfl (.tmp 13) (.tmp 14) rfl rfl ((unhid O2).alloc _) rfl (Row.lit_at _ _ _ _ _ (bytes [128]) rfl rfl rfl) (bytes_one [128]) (by simp [maxLen]; omega) (by omega) (by simp; omega) ?_
  intro A3 c3 w3 o3 g3 l3
  rw [← bytes_append] at o3
  have G3 : Below (gd + 1) w2 w3 := Below.grown ((Below.refl _ _).alloc s2 _) g3 (by simp; omega) (fun q hq => ((unhid O2).from_ q hq).1)
  have s3 : gd + 1 ≤ w3.heap.size := by have := G3.size; omega
  have B3 := hid ((unhid B2).below G3 (by omega))
  have E3 := hid ((unhid E2).trans (G3.mono (by omega)))
  have O3 := hid o3
  clear B2 E2 O2 o3 g3 l3 G3
  go_wp2_with fail
  obtain ⟨z, hz⟩ : ∃ z, Sh2.zerosFor b.length = z := ⟨_, rfl⟩
  have hz2 : z = (119 - n % 64) % 64 := by rw [← hz, HBL.out]; rfl
  have HZ := hid hz; have HZ2 := hid hz2
  have hzl : z < 64 := by omega
  clear hz hz2
  go_loopw [3] (fun v3 wr => ∃ (j L : Nat) (A1 : Option Addr) (c1 : Nat), j ≤ z ∧ Hid (L = n + 1 + j) ∧ v3 = .slice A1 L c1 ∧ Hid (Own wr (gd + 1) 5 1 A1 L c1 (bytes (b ++ 128 :: List.replicate j 0))) ∧ Hid (Below w.heap.size w wr) ∧ Hid (Blk wr gd 23 (cellsOf .u8 (List.replicate 32 0)))) (fun v3 _ => n + 200 - (match v3 with | .slice _ q _ => q | _ => 0))
  case atStart => exact ⟨0, _, A3, c3, Nat.zero_le _, hid rfl, rfl, O3, E3, B3⟩
  case round =>
    obtain ⟨j, L, A1, c1, hj, hL, rfl, HO, HE, HB⟩ := hrel
    have hLb : L < n + 200 := by have := hL.out; omega
    have hs : gd + 1 ≤ wr.heap.size := (unhid HB).lt'
    by_cases hlt : j < z
    · have t1 : ((L : Int) % 64 != 56) = true := by have := hL.out; have := HZ2.out; simp; omega
      go_wp2_with (at_builtin; refine halt_at (fun K hK => ?_))
      refine go_on hK ?_; clear hK
      refine app_step bytesE rfl (.tmp 20) (.tmp 21) rfl rfl ((unhid HO).alloc _) rfl (Row.lit_at _ _ _ _ _ (bytes [0]) rfl rfl rfl) (bytes_one [0]) (by simp [maxLen]; omega) (by omega) (by simp; omega) ?_
      intro A4 c4 w4 o4 g4 l4
      rw [← bytes_append, m_padTo] at o4
      have G4 : Below (gd + 1) wr w4 := Below.grown ((Below.refl _ _).alloc hs _) g4 (by simp; omega) (fun q hq => ((unhid HO).from_ q hq).1)
      have B4 := hid ((unhid HB).below G4 (by omega))
      have E4 := hid ((unhid HE).trans (G4.mono (by omega)))
      have O4 := hid o4
      clear o4 g4 l4 G4 HB HE HO
      go_wp2_with fail
      go_roundw
      case rel => exact ⟨j + 1, L + 1, A4, c4, by omega, by have := hL.out; exact hid (by omega), rfl, O4, E4, B4⟩
      case measure => simp; omega
    · have hjz : j = z := by omega
      subst hjz
      have t1 : ((L : Int) % 64 != 56) = false := by have := hL.out; have := HZ2.out; simp; omega
      go_wp2_with fail
      refine (put8_any (n * 8) _ (by omega)).mono ?_
      rintro e w4 ⟨rfl, bP, eP⟩
      have P4 := hid bP
      have sP := eP.size
      have E4 := hid ((unhid HE).trans (eP.mono (unhid HE).size))
      have B4 := hid ((unhid HB).below eP (by omega))
      have O4 := hid ((unhid HO).below eP (Nat.le_refl _))
      clear bP eP HE HB HO
      go_wp2_with (at_builtin; refine halt_at (fun K hK => ?_))
      refine go_on hK ?_; clear hK
      have RP : Row w4 w4.heap.size 1 (some ⟨wr.heap.size, 0, none⟩) 8 (bytes (Sh2.be8 (n * 8))) := by
        have := Row.of_blk (unhid P4); rw [up_len, be8_len] at this; exact this
      have s4 : gd + 1 ≤ w4.heap.size := by omega
      refine app_step bytesE rfl (.tmp 30) (.tmp 31) rfl rfl (unhid O4) rfl RP (bytes_one _) (by simp [maxLen]; omega) (by omega) (by omega) ?_
      intro A5 c5 w5 o5 g5 l5
      have hT : bytes (b ++ 128 :: List.replicate j 0) ++ bytes (Sh2.be8 (n * 8)) = bytes (b ++ Sh2.pad b.length) := by
        rw [← bytes_append, ← HBL.out, sum_is b j HZ.out (by rw [HBL.out]; omega)]
      rw [hT] at o5
      have G5 : Below (gd + 1) w4 w5 := Below.grown (Below.refl _ _) g5 (by omega) (fun q hq => ((unhid O4).from_ q hq).1)
      have B5 := hid ((unhid B4).below G5 (by omega))
      have E5 := hid ((unhid E4).trans (G5.mono (by omega)))
      have hT2 : Hid (Sh2.sum b = Sh2.out (Sh2.blocks ((b ++ Sh2.pad b.length).length / 64) Sh2.H0 (b ++ Sh2.pad b.length))) := hid rfl
      have T8 := hid (show B8 (b ++ Sh2.pad b.length) from M8.out.append (pad_B8 _))
      have hTl : (b ++ Sh2.pad b.length).length = L + 8 := by
        have := hL.out; have h3 := HZ.out; have h4 := HBL.out
        rw [List.length_append, Sh2.pad_len, h3]; omega
      have hT64 : (L + 8) % 64 = 0 := by have := hL.out; have := HZ2.out; omega
      generalize b ++ Sh2.pad b.length = T at o5 hT2 T8 hTl
      have HTL := hid hTl
      have O5 := hid o5
      have s5 := G5.size
      clear o5 g5 l5 G5 B4 E4 O4 P4 RP hT hTl HZ HZ2 hL t1
      go_wp2_with fail
      have RH5 : Row (w5.alloc (.cells (cellsOf .i64 (up Sh2.H0)) 3)) (w5.heap.size + 1) 1 (some ⟨w5.heap.size, 0, none⟩) 8 (ints Sh2.H0) := Row.lit_at _ _ _ _ _ _ rfl (by simp [cellsOf]) rfl
      have RT5 := ((Row.of_own (unhid O5)).alloc (Nat.le_refl _) (.cells (cellsOf .i64 (up Sh2.H0)) 3)).more (D' := w5.heap.size + 1) (by omega)
      have hc5 := (unhid O5).le.1
      have B6 := hid ((unhid B5).alloc (.cells (cellsOf .i64 (up Sh2.H0)) 3))
      have E6 := hid ((unhid E5).alloc (unhid E5).size (.cells (cellsOf .i64 (up Sh2.H0)) 3))
      have RH6 := hid RH5; have RT6 := hid RT5
      clear RH5 RT5 B5 E5 O5
      refine (rounds_any _).mono ?_
      rintro e w6 ⟨rfl, bK, eK⟩
      have hK6 := bK.lt'
      have E7 := hid ((unhid E6).trans (eK.mono (unhid E6).size))
      have hgd5 : gd < w5.heap.size := by omega
      have B7 := hid ((unhid B6).below eK (by simp; omega))
      have RH7 := hid (((unhid RH6).below (eK.mono (by simp))).more (D' := w6.heap.size) (by have := eK.size; simp at this; omega))
      have RT7 := hid (((unhid RT6).below (eK.mono (by simp))).more (D' := w6.heap.size) (by have := eK.size; simp at this; omega))
      have RK7 : Hid (Row w6 w6.heap.size 1 (some ⟨w5.heap.size + 1, 0, none⟩) 64 (ints Sh2.K)) := hid (by
        have h := Row.of_blk bK
        rw [World.size_alloc] at h
        exact h)
      have sK := eK.size
      clear bK eK E6 B6 RH6 RT6
      go_wp2_with fail
      go_loopw [6, 8] (fun v6 v8 wr => ∃ (q at_' : Nat) (Ah : Option Addr) (ch : Nat), Hid (at_' = 64 * q) ∧ at_' ≤ L + 8 ∧ v8 = .int .i64 at_' ∧ v6 = .slice Ah 8 ch ∧ Hid (Row wr wr.heap.size 1 Ah 8 (ints (Sh2.blocks q Sh2.H0 T))) ∧ Hid (Below w6.heap.size w6 wr)) (fun _ v8 _ => L + 8 - (intOf v8).toNat)
      case atStart => exact ⟨0, 0, _, 8, hid rfl, Nat.zero_le _, rfl, rfl, RH7, hid (Below.refl _ _)⟩
      case round =>
        obtain ⟨q, at', Ah, ch, hat, hle, rfl, rfl, HH, HF⟩ := hrel
        obtain ⟨sl, s32⟩ := blocks_ok' Sh2.H0 T rfl H0_32 q
        by_cases hlt : at' < L + 8
        · have h64 : at' + 64 ≤ L + 8 := by have := hat.out; omega
          have hcut : ((bytes T).take ((at' + 64) * 1)).drop (at' * 1) = bytes ((T.drop at').take 64) := by
            rw [Nat.mul_one, Nat.mul_one, ← bytes_take, ← bytes_drop, List.drop_take, Nat.add_sub_cancel_left]
          have HCUT := hid hcut
          have hst : Sh2.block (Sh2.blocks q Sh2.H0 T) (T.drop at') = Sh2.blocks (q + 1) Sh2.H0 T := by rw [blocks_snoc, hat.out]
          have HST := hid hst
          have hdl : 64 ≤ (T.drop at').length := by rw [List.length_drop, HTL.out]; omega
          have j0 : (0 : Int) ≤ (at' : Int) := by omega
          clear hcut hst
          go_wp2_with (with_reducible refine halt_op (some 47) (.slice _ _ _ _ _) (fun K hK => ?_))
          refine go_on hK ?_; clear hK
          refine slice_step bytesE rfl (.tmp 43) (some (.tmp 44)) (some (.tmp 46)) rfl rfl (i := at') (j := at' + 64) (Bnd.at_ rfl) (Bnd.at_ rfl) ((unhid RT7).below (unhid HF)) (by omega) (by omega) hc5 ?_
          intro A8 r8
          rw [HCUT.out, show at' + 64 - at' = 64 by omega] at r8
          rw [show at' + 64 - at' = 64 by omega]
          have R8 := hid (r8.more (D' := wr.heap.size) (unhid HF).size)
          have RK8 := hid (((unhid RK7).below (unhid HF)).more (D' := wr.heap.size) (unhid HF).size)
          clear r8
          go_wp2_with fail
          refine (rblock_any (Sh2.blocks q Sh2.H0 T) (T.drop at') Ah (some ⟨w5.heap.size + 1, 0, none⟩) A8 ch 64 (c5 - at') wr.heap.size _ sl s32 (unhid HH) (unhid RK8) (unhid R8) (by omega) hdl (Nat.le_refl _) (B8.drop T8.out _)).mono ?_
          rintro e w8 ⟨g8, c8, rfl, r9, hc8, hb8⟩
          rw [HST.out] at r9
          have R9 := hid r9
          have F9 := hid ((unhid HF).trans (hb8.mono (unhid HF).size))
          clear r9 hb8 HF HH R8 RK8
          go_wp2_with fail
          go_roundw
          case rel => exact ⟨q + 1, at' + 64, _, c8, by have := hat.out; exact hid (by omega), h64, by go_num, rfl, R9, F9⟩
          case measure => simp [intOf]; omega
        · have hq : (L + 8) / 64 = q := by have := hat.out; omega
          have hS : Hid (Sh2.sum b = Sh2.out (Sh2.blocks q Sh2.H0 T)) := by
            have := hT2.out; rw [HTL.out, hq] at this; exact hid this
          generalize Sh2.blocks q Sh2.H0 T = S at sl s32 HH hS
          have SL := hid sl
          have E8 := hid ((unhid E7).trans ((unhid HF).mono (unhid E7).size))
          have B8' := hid ((unhid B7).below (unhid HF) (unhid B7).lt')
          clear sl hq hT2 E7 B7 RH7 RT7 RK7
          obtain ⟨gs, os, rfl, hgs, hcs⟩ := (unhid HH).cells (by decide)
          have HCS := hid hcs
          clear hcs
          have slr : (0 : Nat) < wr.heap.size := by omega
          go_wp2_with (with_reducible refine halt_op (some 9) (.alloc _) (fun K hK => ?_))
          refine go_on hK ?_; clear hK
          refine alloc_arr digT rfl rfl ?_
          rintro g9 w9 hg9 s9 b9 e9
          have B9 := hid b9
          have hg9' : wr.heap.size ≤ g9 := by omega
          have E9 := hid ((unhid E8).trans (e9.mono (by have := (unhid E8).size; omega)))
          have BD9 := hid ((unhid B8').below e9 (by have := (unhid B8').lt'; omega))
          have hgd9 : gd < g9 := by have := (unhid B8').lt'; omega
          have C9 : Hid (∀ i, i < 8 → w9.cell? ⟨gs, os + i, none⟩ = (ints S)[i]?) := fun i hi => by
            rw [e9.cell (p := ⟨gs, os + i, none⟩) (by show gs < g9; omega), HCS.out i (by simp [up, SL.out]; exact hi)]
          clear b9 e9 hg9 s9 E8 B8' HCS
          go_wp2_with fail
          go_loopw [10] (fun v10 wr => ∃ i : Nat, i ≤ 32 ∧ v10 = .int .i64 i ∧ Hid (Blk wr g9 23 (cellsOf .u8 (up ((Sh2.out S).take i ++ zero32'.drop i)))) ∧ Hid (Below g9 w9 wr)) (fun v10 _ => 32 - (intOf v10).toNat)
          case atStart => exact ⟨0, Nat.zero_le _, rfl, B9, hid (Below.refl _ _)⟩
          case round =>
          obtain ⟨i, hi, rfl, HV, HG⟩ := hrel
          by_cases hi32 : i < 32
          · obtain ⟨a, r, rfl, hr4⟩ : ∃ a r, i = 4 * a + r ∧ r < 4 := ⟨i / 4, i % 4, by omega, Nat.mod_lt _ (by decide)⟩
            have ha8 : a < 8 := by omega
            obtain ⟨x, hx⟩ : ∃ x, S[a]? = some x := ⟨_, List.getElem?_eq_getElem (by rw [SL.out]; exact ha8)⟩
            have bx := s32 x (List.mem_of_getElem? hx)
            have hz := out_get S a r x ha8 hr4 hx
            have hset := hid (patchN_set (Sh2.out_len S) (show zero32'.length = 32 from rfl) hi32 hz)
            have d1 : wr.cell? ⟨g9, 4 * a + r, none⟩ = some (.int .u8 0) := by
              rw [(unhid HV).cell, cellsOf_get, up_get, patchN_at (Sh2.out_len S) (show zero32'.length = 32 from rfl) hi32, zero32', List.getElem?_replicate, if_pos hi32]; rfl
            have d2 : wr.frozen? ⟨g9, 4 * a + r, none⟩ = false := (unhid HV).free _
            have d3 : wr.cell? ⟨gs, os + a, none⟩ = some (.int .i64 (x : Nat)) := by
              rw [(unhid HG).cell (p := ⟨gs, os + a, none⟩) (by show gs < g9; omega), C9.out a ha8, List.getElem?_map, up_get, hx]; rfl
            have j0 : (0 : Int) ≤ (a : Int) := by omega
            have j1 : (a : Int) < 8 := by omega
            clear hx hz
            have hr5 : r = 0 ∨ r = 1 ∨ r = 2 ∨ r = 3 := by omega
            rcases hr5 with rfl | rfl | rfl | rfl
            · have ev : (x : Int) / 16777216 = ((x / 2 ^ (24 - 8 * 0) % 256 : Nat) : Int) := by
                have e : 2 ^ (24 - 8 * 0) = 16777216 := rfl
                rw [e]; omega
              have EV := hid ev; clear ev
              have f1 : (4 * (a : Int)) / 4 = (a : Int) := by omega
              have f2 : (4 * (a : Int)) % 4 = 0 := by omega
              have i0 : (((4 * a + 0 : Nat) : Int)) = 4 * (a : Int) := by omega
              rw [i0]
              have j2 : (4 * (a : Int)) < 32 := by omega
              have j3 : (0 : Int) ≤ 4 * (a : Int) := by omega
              have tn : (4 * (a : Int)).toNat = 4 * a := by omega
              try simp only [Nat.add_zero] at d1 d2
              clear i0
              go_wp2_with fail
              go_roundw
              case rel =>
                refine ⟨4 * a + 1, by omega, by first | (simp; done) | (simp; omega), ?_, hid ((unhid HG).setCell (Nat.le_refl g9) _)⟩
                have := (unhid HV).put (4 * a + 0) (.int .u8 ((x / 2 ^ (24 - 8 * 0) % 256 : Nat) : Int))
                rw [cellsOf_set, up_set, hset.out, ← EV.out] at this
                exact hid this
              case measure => simp [intOf]; omega
            · have ev : (x : Int) / 65536 % 256 = ((x / 2 ^ (24 - 8 * 1) % 256 : Nat) : Int) := by
                have e : 2 ^ (24 - 8 * 1) = 65536 := rfl
                rw [e]; omega
              have EV := hid ev; clear ev
              have f1 : (4 * (a : Int) + 1) / 4 = (a : Int) := by omega
              have f2 : (4 * (a : Int) + 1) % 4 = 1 := by omega
              have i0 : (((4 * a + 1 : Nat) : Int)) = 4 * (a : Int) + 1 := by omega
              rw [i0]
              have j2 : (4 * (a : Int) + 1) < 32 := by omega
              have j3 : (0 : Int) ≤ 4 * (a : Int) + 1 := by omega
              have tn : (4 * (a : Int) + 1).toNat = 4 * a + 1 := by omega
              try simp only [Nat.add_zero] at d1 d2
              clear i0
              go_wp2_with fail
              go_roundw
              case rel =>
                refine ⟨4 * a + 2, by omega, by first | (simp; done) | (simp; omega), ?_, hid ((unhid HG).setCell (Nat.le_refl g9) _)⟩
                have := (unhid HV).put (4 * a + 1) (.int .u8 ((x / 2 ^ (24 - 8 * 1) % 256 : Nat) : Int))
                rw [cellsOf_set, up_set, hset.out, ← EV.out] at this
                exact hid this
              case measure => simp [intOf]; omega
            · have ev : (x : Int) / 256 % 256 = ((x / 2 ^ (24 - 8 * 2) % 256 : Nat) : Int) := by
                have e : 2 ^ (24 - 8 * 2) = 256 := rfl
                rw [e]; omega
              have EV := hid ev; clear ev
              have f1 : (4 * (a : Int) + 2) / 4 = (a : Int) := by omega
              have f2 : (4 * (a : Int) + 2) % 4 = 2 := by omega
              have i0 : (((4 * a + 2 : Nat) : Int)) = 4 * (a : Int) + 2 := by omega
              rw [i0]
              have j2 : (4 * (a : Int) + 2) < 32 := by omega
              have j3 : (0 : Int) ≤ 4 * (a : Int) + 2 := by omega
              have tn : (4 * (a : Int) + 2).toNat = 4 * a + 2 := by omega
              try simp only [Nat.add_zero] at d1 d2
              clear i0
              go_wp2_with fail
              go_roundw
              case rel =>
                refine ⟨4 * a + 3, by omega, by first | (simp; done) | (simp; omega), ?_, hid ((unhid HG).setCell (Nat.le_refl g9) _)⟩
                have := (unhid HV).put (4 * a + 2) (.int .u8 ((x / 2 ^ (24 - 8 * 2) % 256 : Nat) : Int))
                rw [cellsOf_set, up_set, hset.out, ← EV.out] at this
                exact hid this
              case measure => simp [intOf]; omega
            · have ev : (x : Int) % 256 = ((x / 2 ^ (24 - 8 * 3) % 256 : Nat) : Int) := by
                have e : 2 ^ (24 - 8 * 3) = 1 := rfl
                rw [e]; omega
              have EV := hid ev; clear ev
              have f1 : (4 * (a : Int) + 3) / 4 = (a : Int) := by omega
              have f2 : (4 * (a : Int) + 3) % 4 = 3 := by omega
              have i0 : (((4 * a + 3 : Nat) : Int)) = 4 * (a : Int) + 3 := by omega
              rw [i0]
              have j2 : (4 * (a : Int) + 3) < 32 := by omega
              have j3 : (0 : Int) ≤ 4 * (a : Int) + 3 := by omega
              have tn : (4 * (a : Int) + 3).toNat = 4 * a + 3 := by omega
              try simp only [Nat.add_zero] at d1 d2
              clear i0
              go_wp2_with fail
              go_roundw
              case rel =>
                refine ⟨4 * a + 4, by omega, by first | (simp; done) | (simp; omega), ?_, hid ((unhid HG).setCell (Nat.le_refl g9) _)⟩
                have := (unhid HV).put (4 * a + 3) (.int .u8 ((x / 2 ^ (24 - 8 * 3) % 256 : Nat) : Int))
                rw [cellsOf_set, up_set, hset.out, ← EV.out] at this
                exact hid this
              case measure => simp [intOf]; omega
          · have hi33 : i = 32 := by omega
            subst hi33
            have hall : (Sh2.out S).take 32 ++ zero32'.drop 32 = Sh2.sum b := by
              rw [List.take_of_length_le (by rw [Sh2.out_len]; exact Nat.le_refl _), List.drop_of_length_le (by decide), List.append_nil, hS.out]
            rw [hall] at HV
            clear hall
            go_wp2_with (with_reducible refine halt_op (some 66) (.load _ _) (fun K hK => ?_))
            refine go_on hK ?_; clear hK
            refine load_arr digT (l := up (Sh2.sum b)) rfl (.tmp 9) rfl rfl (unhid HV) (sum_len_u b) ?_
            refine store_arr digT (l := up (Sh2.sum b)) rfl (.tmp 2) (.tmp 66) rfl rfl rfl (sum_len_u b) ((unhid BD9).below (unhid HG) hgd9) (by simp [cellsOf]) ?_
            intro w10 b10 g10
            have EE := (unhid E9).trans ((unhid HG).mono (by omega))
            have B10 := hid b10; have E10 := hid (EE.grown g10 EE.size (fun q hq => by injection hq with hq; omega)); clear b10 g10 EE
            go_wp2
            exact bodyPost_ret (results_cell_row rfl _ _ gd _ (cellsOf .u8 (up (Sh2.sum b))) (0, 0) _ rfl (unhid B10) digT.under rfl (by rw [cellsOf_size, sum_len_u]; exact digT.size)) rfl ⟨rfl, unhid E10⟩
end Go.Proofs.YtlaoijnlemgdfaaDoor

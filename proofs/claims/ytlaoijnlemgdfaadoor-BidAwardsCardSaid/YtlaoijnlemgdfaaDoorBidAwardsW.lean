/- The walk of the law BidAwards. -/
import Derived.Test.YtlaoijnlemgdfaaDoorBidAwdW
import Derived.Test.YtlaoijnlemgdfaaDoorBidOrderW
namespace Go.Proofs.YtlaoijnlemgdfaaDoor
set_option linter.unusedVariables false
open Go.RowKit Go.Mny
set_option maxRecDepth 100000 in
theorem run_buildA (y : Int) (w : World) : (Instr.build 62 #[(1, .int .i64 y)]).run Tryd.prog w = .ok (.agg (bc ⟨0, y, List.replicate 32 0⟩).toArray) w := by
  go_simp
  rfl
theorem build_A {w : World} {ops : Array Oper} {rest : List Oper} {o : Oper} {a : Act} {Q : Exit → Act → World → Prop} (hw : Region.wanted o (yielded ops a.tmps) = true)
    (y : Operand) (ho : o.op = .build 62 #[(1, y)]) {v : Int} (hy : a.eval y = .int .i64 v)
    (h : wpList Tryd.prog ops Q rest (a.put o.dst (.agg (bc ⟨0, v, List.replicate 32 0⟩).toArray)) w) : wpList Tryd.prog ops Q (o :: rest) a w := by
  refine op_step hw fun K hK => ?_
  have hr := run_buildA v w
  unfold Oper.wp execOp
  simp only [ho, List.map_toArray, List.map_cons, List.map_nil, hy, Sem.run_bind, Sem.run_pure, Result.andThen_ok, hr]
  exact hK _ _ h
set_option maxRecDepth 100000 in
theorem run_buildZ (w : World) : (Instr.build 23 #[]).run Tryd.prog w = .ok (.agg (cellsOf .u8 (List.replicate 32 0))) w := by
  go_simp
  rfl
theorem build_Z {w : World} {ops : Array Oper} {rest : List Oper} {o : Oper} {a : Act} {Q : Exit → Act → World → Prop} (hw : Region.wanted o (yielded ops a.tmps) = true)
    (ho : o.op = .build 23 #[])
    (h : wpList Tryd.prog ops Q rest (a.put o.dst (.agg (cellsOf .u8 (List.replicate 32 0)))) w) : wpList Tryd.prog ops Q (o :: rest) a w := by
  refine op_step hw fun K hK => ?_
  have hr := run_buildZ w
  unfold Oper.wp execOp
  simp only [ho, List.map_toArray, List.map_nil, Sem.run_bind, Sem.run_pure, Result.andThen_ok, hr]
  exact hK _ _ h
theorem vow5 : (vowB ⟨0, 5, List.replicate 32 0⟩ == List.replicate 32 0) = false := by decide +kernel
theorem vow5_ne : up (vowB ⟨0, 5, List.replicate 32 0⟩) ≠ List.replicate 32 0 := by
  intro h
  have h1 := vow5
  generalize vowB ⟨0, 5, List.replicate 32 0⟩ = l at h h1
  have : l = List.replicate 32 0 := by
    rw [List.eq_replicate_iff]
    have h2 : (up l).length = 32 := by rw [h]; simp
    refine ⟨by simpa [up] using h2, fun x hx => ?_⟩
    have hm : (x : Int) ∈ up l := List.mem_map.2 ⟨x, hx, rfl⟩
    rw [h] at hm
    have := (List.mem_replicate.1 hm).2
    omega
  rw [this] at h1
  simp at h1
set_option maxHeartbeats 8000000 in
set_option maxRecDepth 100000 in
theorem bidAwards_walk (A0 : Option Addr) (n0 c0 m0 : Nat) (A1 : Option Addr) (n1 c1 m1 : Nat) (a2 : Int) (w : World) (s0 : Sh.ok w w.heap.size (.slice 32 (.arr 32 1 (.int .u8))) m0 [.slice A0 n0 c0]) (s1 : Sh.ok w w.heap.size (.slice 34 (bidSh)) m1 [.slice A1 n1 c1]) (f2 : (Lit.int .i64 a2).wf = true) (hL : Laid w) (h0 : 1 < w.heap.size) (hH : Hdl w) :
    Calls Tryd.prog 9 #[.slice A0 n0 c0, .slice A1 n1 c1, .int .i64 a2] w fun e w' => e = .returned (.bool true) ∧ Below w.heap.size w w' := by
  have hn1 : n1 ≤ 9223372036854775807 := by
    obtain ⟨A, n, c, es, f, hv, h1, h2, _⟩ := s1
    simp only [List.cons.injEq, Value.slice.injEq, and_true] at hv
    obtain ⟨_, rfl, rfl⟩ := hv
    unfold maxLen at h2; omega
  obtain ⟨A, n, c, Vs, hv, _, _, hVr, hVl, hV2, hm0⟩ := Sh.digests s0
  injection hv with e1 e2 e3
  subst e1 e2 e3
  obtain ⟨A, n, c, bs, hv, _, hBr, hBl, hBk, hm1⟩ := Sh.bids s1
  injection hv with e1 e2 e3
  subst e1 e2 e3
  have HV := hid hVr; have HVL := hid hVl; have HV2 := hid (fun l (h : l ∈ Vs) => (hV2 l h).1); have HBR := hid hBr; have HBL := hid hBl; have HBK := hid hBk; have HL := hid hL; have HH := hid hH
  have HS := hid (fun b (h : b ∈ bs) => (hBk b h).1)
  clear s0 s1 f2 hVr hVl hV2 hBr hBl hBk hL hH hm0 hm1
  go_enter Tryd.func9, Tryd.ntmps9
  by_cases t1 : a2 < 0
  · have N1 := hid (award_no A0 A1 n0 c0 n1 c1 a2 w 2 (.inl ⟨t1, rfl⟩))
    have TT := hid (error_err 2 2 (by decide) w (unhid HH))
    rw [show ((2 : Int) == 2) = true from rfl] at TT
    go_wp2_with fail
    refine (unhid N1).mono ?_
    rintro e w' ⟨rfl, rfl⟩
    go_wp2_with fail
    refine (unhid TT).mono ?_
    rintro e w7 ⟨rfl, hb7⟩
    have E7 := hid hb7
    clear hb7 TT N1
    go_wp2_with fail
    go_loopw [14] (fun v14 wr => ∃ i : Nat, i ≤ n1 ∧ v14 = .int .i64 i ∧ Hid (Below w.heap.size w wr)) (fun v14 _ => n1 - (intOf v14).toNat)
    case atStart => exact ⟨0, Nat.zero_le _, rfl, E7⟩
    case round =>
      obtain ⟨i, hi, rfl, HB⟩ := hrel
      by_cases hin : i < n1
      · obtain ⟨b, hb⟩ : ∃ b, bs[i]? = some b := ⟨_, List.getElem?_eq_getElem (by rw [HBL.out]; exact hin)⟩
        obtain ⟨gb, ob, rfl, hgb, HRG⟩ := bids_at (unhid HBR) HS.out hin hb
        have HBk := hid (HBK.out b (List.mem_of_getElem? hb))
        have HLb := hid (bc_len HBk.out.1)
        obtain ⟨wq, hwq⟩ : ∃ wq : World, wq = wr := ⟨_, rfl⟩
        rw [← hwq] at HB
        rw [← hwq]
        have hsq := (unhid HB).size
        have i1 : (0 : Int) ≤ (i : Int) := by omega
        have i2 : (i : Int) < (n1 : Int) := by omega
        clear hwq hb
        go_wp2_with (with_reducible refine halt_op (some 16) (.alloc _) (fun K hK => ?_))
        refine go_on hK ?_; clear hK
        refine alloc_arr digT rfl rfl ?_
        rintro g16 w2 hg16 s2 b2 e2
        have hw2 : wq.heap.size ≤ g16 := by omega
        have hg2 : g16 < w2.heap.size := by omega
        have B2 := hid b2
        have EQ2 := hid ((unhid HB).trans ((e2.mono hw2).mono hsq))
        clear hg16 s2 b2 e2
        have hs2 := (unhid EQ2).size
        go_wp2_with (with_reducible refine halt_op (some 72) (.load _ _) (fun K hK => ?_))
        refine go_on hK ?_; clear hK
        refine load_mid bidT rfl (.tmp 71) rfl rfl (rng34 HRG hgb (unhid EQ2)) HLb.out ?_
        by_cases hvk : vowOk b
        · have TY := hid (text_yes b w2 HBk.out hvk)
          have HVK := hid hvk
          clear hvk
          go_wp2_with fail
          refine (unhid TY).mono ?_
          rintro e w5 ⟨A5, c5, rfl, r5, hb5⟩
          have B5 := hid ((unhid B2).below hb5 hg2)
          have E5 := hid ((unhid EQ2).trans (hb5.mono hs2))
          have hg5 : g16 < w5.heap.size := Nat.lt_of_lt_of_le hg2 hb5.size
          have CS := hid (rsum_vow b A5 c5 w5 w5 HBk.out HVK.out r5 (Below.refl _ _))
          have hs5 := (unhid E5).size
          clear r5 hb5 TY
          go_wp2_with fail
          refine (unhid CS).mono ?_
          rintro e w6 ⟨rfl, hb6⟩
          have B6 := hid ((unhid B5).below hb6 hg5)
          have E6 := hid ((unhid E5).trans (hb6.mono hs5))
          have hg6 : g16 < w6.heap.size := Nat.lt_of_lt_of_le hg5 hb6.size
          have hs6 := (unhid E6).size
          clear hb6 CS
          go_wp2_with (with_reducible refine halt_op none (.store _ _ _) (fun K hK => ?_))
          refine go_on hK ?_; clear hK
          refine store_arr digT (l := up (vowB b)) rfl (.tmp 16) (.tmp 78) rfl rfl rfl (sum_len_u _) (unhid B6) (by simp [cellsOf]) ?_
          intro w7 b7 g7
          have hz7 := g7.size
          have B7 := hid b7
          have E7' := hid ((unhid E6).grown g7 hs6 (fun q hq => by have e9 : g16 = q := Option.some.inj hq; omega))
          have hg7 : g16 < w7.heap.size := by omega
          have hs7 := (unhid E7').size
          clear b7 g7 hz7 B6 B5 B2
          go_wp2_with (with_reducible refine halt_op (some 83) (.load _ _) (fun K hK => ?_))
          refine go_on hK ?_; clear hK
          refine load_mid bidT rfl (.tmp 82) rfl rfl (rng34 HRG hgb (unhid E7')) HLb.out ?_
          have VY := hid (vow_yes b w7 HBk.out HVK.out ((unhid HL).below (unhid E7') h0) (Nat.lt_of_lt_of_le h0 hs7))
          unfold bidV at VY
          go_wp2_with fail
          refine (unhid VY).mono ?_
          rintro e w8 ⟨rfl, hb8⟩
          have B8' := hid ((unhid B7).below hb8 hg7)
          have E8 := hid ((unhid E7').trans (hb8.mono hs7))
          have hg8 : g16 < w8.heap.size := Nat.lt_of_lt_of_le hg7 hb8.size
          have hs8 := (unhid E8).size
          clear hb8 VY B7
          go_wp2_with (with_reducible refine halt_op (some 19) (.alloc _) (fun K hK => ?_))
          refine go_on hK ?_; clear hK
          refine alloc_arr digT rfl rfl ?_
          rintro g19 w9 hg19 s9 b9 e9
          go_wp2_with (with_reducible refine halt_op none (.store _ _ _) (fun K hK => ?_))
          refine go_on hK ?_; clear hK
          refine store_arr digT (l := up (vowB b)) rfl (.tmp 19) (.tmp 85) rfl rfl rfl (sum_len_u _) b9 (by simp [cellsOf]) ?_
          intro w10 b10 g10
          have hz10 := g10.size
          have E910 : Below w8.heap.size w8 w10 := (e9.mono (show w8.heap.size ≤ g19 by omega)).grown g10 (by omega) (fun q hq => by have e9 : g19 = q := Option.some.inj hq; omega)
          have C10 := hid b10
          have B10 := hid ((unhid B8').below E910 hg8)
          have E10 := hid ((unhid E8).trans (E910.mono hs8))
          have hg10 : g16 < w10.heap.size := by omega
          have hh10 : g19 < w10.heap.size := by omega
          have hs10 := (unhid E10).size
          clear hg19 s9 b9 e9 b10 g10 hz10 E910 B8'
          have TT := hid (error_nil 0 w10 ((unhid HH).of_below (unhid E10)))
          rw [show ((0 : Int) == 0) = true from rfl] at TT
          go_wp2_with fail
          refine (unhid TT).mono ?_
          rintro e w11 ⟨rfl, hb11⟩
          have C11 := hid ((unhid C10).below hb11 hh10)
          have B11 := hid ((unhid B10).below hb11 hg10)
          have E11 := hid ((unhid E10).trans (hb11.mono hs10))
          clear hb11 TT C10 B10
          go_wp2_with (with_reducible refine halt_op (some 93) (.load _ _) (fun K hK => ?_))
          refine go_on hK ?_; clear hK
          refine load_arr digT (l := up (vowB b)) rfl (.tmp 19) rfl rfl (unhid C11) (sum_len_u _) ?_
          refine load_arr digT (l := up (vowB b)) rfl (.tmp 16) rfl rfl (unhid B11) (sum_len_u _) ?_
          refine neq_arr digT noGuardD rfl (.tmp 93) (.tmp 94) _ rfl rfl rfl (sum_len_u _) (sum_len_u _) (b := false) (by simp) ?_
          go_wp2_with fail
          go_roundw
          case rel => exact ⟨i + 1, by omega, by go_num, E11⟩
          case measure => simp [intOf]; omega
        · have TN := hid (text_no b w2 HBk.out hvk)
          have VN := hid fun W : World => vow_no b W HBk.out hvk
          unfold bidV at VN
          clear hvk
          go_wp2_with fail
          refine (unhid TN).mono ?_
          rintro e w5 ⟨rfl, hb5⟩
          have B5 := hid ((unhid B2).below hb5 hg2)
          have E5 := hid ((unhid EQ2).trans (hb5.mono hs2))
          have hg5 : g16 < w5.heap.size := Nat.lt_of_lt_of_le hg2 hb5.size
          have hs5 := (unhid E5).size
          clear hb5 TN B2
          go_wp2_with (with_reducible refine halt_op (some 83) (.load _ _) (fun K hK => ?_))
          refine go_on hK ?_; clear hK
          refine load_mid bidT rfl (.tmp 82) rfl rfl (rng34 HRG hgb (unhid E5)) HLb.out ?_
          go_wp2_with fail
          refine (VN.out _).mono ?_
          rintro e w8 ⟨rfl, hb8⟩
          have B8' := hid ((unhid B5).below hb8 hg5)
          have E8 := hid ((unhid E5).trans (hb8.mono hs5))
          have hg8 : g16 < w8.heap.size := Nat.lt_of_lt_of_le hg5 hb8.size
          have hs8 := (unhid E8).size
          clear hb8 VN B5
          go_wp2_with (with_reducible refine halt_op (some 19) (.alloc _) (fun K hK => ?_))
          refine go_on hK ?_; clear hK
          refine alloc_arr digT rfl rfl ?_
          rintro g19 w9 hg19 s9 b9 e9
          go_wp2_with (with_reducible refine halt_op none (.store _ _ _) (fun K hK => ?_))
          refine go_on hK ?_; clear hK
          refine store_arr digT (l := List.replicate 32 0) rfl (.tmp 19) (.tmp 85) rfl rfl rfl (by simp) b9 (by simp [cellsOf]) ?_
          intro w10 b10 g10
          have hz10 := g10.size
          have E910 : Below w8.heap.size w8 w10 := (e9.mono (show w8.heap.size ≤ g19 by omega)).grown g10 (by omega) (fun q hq => by have e9 : g19 = q := Option.some.inj hq; omega)
          have C10 := hid b10
          have B10 := hid ((unhid B8').below E910 hg8)
          have E10 := hid ((unhid E8).trans (E910.mono hs8))
          have hg10 : g16 < w10.heap.size := by omega
          have hh10 : g19 < w10.heap.size := by omega
          have hs10 := (unhid E10).size
          clear hg19 s9 b9 e9 b10 g10 hz10 E910 B8'
          have TT := hid (error_err 2 2 (by decide) w10 ((unhid HH).of_below (unhid E10)))
          rw [show ((2 : Int) == 2) = true from rfl] at TT
          go_wp2_with fail
          refine (unhid TT).mono ?_
          rintro e w11 ⟨rfl, hb11⟩
          have C11 := hid ((unhid C10).below hb11 hh10)
          have B11 := hid ((unhid B10).below hb11 hg10)
          have E11 := hid ((unhid E10).trans (hb11.mono hs10))
          clear hb11 TT C10 B10
          go_wp2_with (with_reducible refine halt_op (some 93) (.load _ _) (fun K hK => ?_))
          refine go_on hK ?_; clear hK
          refine load_arr digT (l := List.replicate 32 0) rfl (.tmp 19) rfl rfl (unhid C11) (by simp) ?_
          refine load_arr digT (l := List.replicate 32 0) rfl (.tmp 16) rfl rfl (unhid B11) (by simp) ?_
          refine neq_arr digT noGuardD rfl (.tmp 93) (.tmp 94) _ rfl rfl rfl (by simp) (by simp) (b := false) (by simp) ?_
          go_wp2_with fail
          go_roundw
          case rel => exact ⟨i + 1, by omega, by go_num, E11⟩
          case measure => simp [intOf]; omega
      · have i3 : (n1 : Int) ≤ (i : Int) := by omega
        have hsb := (unhid HB).size
        obtain ⟨wq, hwq⟩ : ∃ wq : World, wq = wr := ⟨_, rfl⟩
        rw [← hwq] at HB hsb
        rw [← hwq]
        clear hwq
        go_wp2_with (with_reducible refine halt_op (some 98) (.build _ _) (fun K hK => ?_))
        refine go_on hK ?_; clear hK
        refine build_A rfl (.const (.int .i64 5)) rfl rfl ?_
        have VY := hid (vow_yes ⟨0, 5, List.replicate 32 0⟩ wq (bd_zero (by decide) (by decide) (by decide)) (by decide) ((unhid HL).below (unhid HB) h0) (Nat.lt_of_lt_of_le h0 hsb))
        unfold bidV at VY
        have HNE := hid vow5_ne
        have HLN : Hid ((up (vowB ⟨0, 5, List.replicate 32 0⟩)).length = 32) := hid (sum_len_u _)
        generalize vowB ⟨0, 5, List.replicate 32 0⟩ = vb at VY HNE HLN
        go_wp2_with fail
        refine (unhid VY).mono ?_
        rintro e w8 ⟨rfl, hb8⟩
        have E8 := hid ((unhid HB).trans (hb8.mono hsb))
        have hs8 := (unhid E8).size
        clear hb8 VY HB hsb
        go_wp2_with (with_reducible refine halt_op (some 21) (.alloc _) (fun K hK => ?_))
        refine go_on hK ?_; clear hK
        refine alloc_arr digT rfl rfl ?_
        rintro g21 w9 hg21 s9 b9 e9
        go_wp2_with (with_reducible refine halt_op none (.store _ _ _) (fun K hK => ?_))
        refine go_on hK ?_; clear hK
        refine store_arr digT (l := up vb) rfl (.tmp 21) (.tmp 100) rfl rfl rfl HLN.out b9 (by simp [cellsOf]) ?_
        intro w10 b10 g10
        have E910 : Below w8.heap.size w8 w10 := (e9.mono (show w8.heap.size ≤ g21 by omega)).grown g10 (by omega) (fun q hq => by have e9 : g21 = q := Option.some.inj hq; omega)
        have C10 := hid b10
        have E10 := hid ((unhid E8).trans (E910.mono hs8))
        clear hg21 s9 b9 e9 b10 g10 E910 E8
        go_wp2_with (with_reducible refine halt_op (some 105) (.load _ _) (fun K hK => ?_))
        refine go_on hK ?_; clear hK
        refine load_arr digT (l := up vb) rfl (.tmp 21) rfl rfl (unhid C10) HLN.out ?_
        refine build_Z rfl rfl ?_
        refine neq_arr digT noGuardD rfl (.tmp 105) (.tmp 106) _ rfl rfl rfl HLN.out (by simp) (b := true) (decide_eq_true HNE.out).symm ?_
        go_wp2_with fail
        go_ret
        exact ⟨rfl, unhid E10⟩
  · by_cases t2 : (100 : Int) < (n0 : Int)
    · have N1 := hid (award_no A0 A1 n0 c0 n1 c1 a2 w 4 (.inr ⟨by omega, .inl (by omega), rfl⟩))
      have TT := hid (error_err 4 4 (by decide) w (unhid HH))
      rw [show ((4 : Int) == 4) = true from rfl] at TT
      go_wp2_with fail
      refine (unhid N1).mono ?_
      rintro e w' ⟨rfl, rfl⟩
      go_wp2_with fail
      refine (unhid TT).mono ?_
      rintro e w7 ⟨rfl, hb7⟩
      have E7 := hid hb7
      clear hb7 TT N1
      go_wp2_with fail
      go_loopw [14] (fun v14 wr => ∃ i : Nat, i ≤ n1 ∧ v14 = .int .i64 i ∧ Hid (Below w.heap.size w wr)) (fun v14 _ => n1 - (intOf v14).toNat)
      case atStart => exact ⟨0, Nat.zero_le _, rfl, E7⟩
      case round =>
        obtain ⟨i, hi, rfl, HB⟩ := hrel
        by_cases hin : i < n1
        · obtain ⟨b, hb⟩ : ∃ b, bs[i]? = some b := ⟨_, List.getElem?_eq_getElem (by rw [HBL.out]; exact hin)⟩
          obtain ⟨gb, ob, rfl, hgb, HRG⟩ := bids_at (unhid HBR) HS.out hin hb
          have HBk := hid (HBK.out b (List.mem_of_getElem? hb))
          have HLb := hid (bc_len HBk.out.1)
          obtain ⟨wq, hwq⟩ : ∃ wq : World, wq = wr := ⟨_, rfl⟩
          rw [← hwq] at HB
          rw [← hwq]
          have hsq := (unhid HB).size
          have i1 : (0 : Int) ≤ (i : Int) := by omega
          have i2 : (i : Int) < (n1 : Int) := by omega
          clear hwq hb
          go_wp2_with (with_reducible refine halt_op (some 16) (.alloc _) (fun K hK => ?_))
          refine go_on hK ?_; clear hK
          refine alloc_arr digT rfl rfl ?_
          rintro g16 w2 hg16 s2 b2 e2
          have hw2 : wq.heap.size ≤ g16 := by omega
          have hg2 : g16 < w2.heap.size := by omega
          have B2 := hid b2
          have EQ2 := hid ((unhid HB).trans ((e2.mono hw2).mono hsq))
          clear hg16 s2 b2 e2
          have hs2 := (unhid EQ2).size
          go_wp2_with (with_reducible refine halt_op (some 72) (.load _ _) (fun K hK => ?_))
          refine go_on hK ?_; clear hK
          refine load_mid bidT rfl (.tmp 71) rfl rfl (rng34 HRG hgb (unhid EQ2)) HLb.out ?_
          by_cases hvk : vowOk b
          · have TY := hid (text_yes b w2 HBk.out hvk)
            have HVK := hid hvk
            clear hvk
            go_wp2_with fail
            refine (unhid TY).mono ?_
            rintro e w5 ⟨A5, c5, rfl, r5, hb5⟩
            have B5 := hid ((unhid B2).below hb5 hg2)
            have E5 := hid ((unhid EQ2).trans (hb5.mono hs2))
            have hg5 : g16 < w5.heap.size := Nat.lt_of_lt_of_le hg2 hb5.size
            have CS := hid (rsum_vow b A5 c5 w5 w5 HBk.out HVK.out r5 (Below.refl _ _))
            have hs5 := (unhid E5).size
            clear r5 hb5 TY
            go_wp2_with fail
            refine (unhid CS).mono ?_
            rintro e w6 ⟨rfl, hb6⟩
            have B6 := hid ((unhid B5).below hb6 hg5)
            have E6 := hid ((unhid E5).trans (hb6.mono hs5))
            have hg6 : g16 < w6.heap.size := Nat.lt_of_lt_of_le hg5 hb6.size
            have hs6 := (unhid E6).size
            clear hb6 CS
            go_wp2_with (with_reducible refine halt_op none (.store _ _ _) (fun K hK => ?_))
            refine go_on hK ?_; clear hK
            refine store_arr digT (l := up (vowB b)) rfl (.tmp 16) (.tmp 78) rfl rfl rfl (sum_len_u _) (unhid B6) (by simp [cellsOf]) ?_
            intro w7 b7 g7
            have hz7 := g7.size
            have B7 := hid b7
            have E7' := hid ((unhid E6).grown g7 hs6 (fun q hq => by have e9 : g16 = q := Option.some.inj hq; omega))
            have hg7 : g16 < w7.heap.size := by omega
            have hs7 := (unhid E7').size
            clear b7 g7 hz7 B6 B5 B2
            go_wp2_with (with_reducible refine halt_op (some 83) (.load _ _) (fun K hK => ?_))
            refine go_on hK ?_; clear hK
            refine load_mid bidT rfl (.tmp 82) rfl rfl (rng34 HRG hgb (unhid E7')) HLb.out ?_
            have VY := hid (vow_yes b w7 HBk.out HVK.out ((unhid HL).below (unhid E7') h0) (Nat.lt_of_lt_of_le h0 hs7))
            unfold bidV at VY
            go_wp2_with fail
            refine (unhid VY).mono ?_
            rintro e w8 ⟨rfl, hb8⟩
            have B8' := hid ((unhid B7).below hb8 hg7)
            have E8 := hid ((unhid E7').trans (hb8.mono hs7))
            have hg8 : g16 < w8.heap.size := Nat.lt_of_lt_of_le hg7 hb8.size
            have hs8 := (unhid E8).size
            clear hb8 VY B7
            go_wp2_with (with_reducible refine halt_op (some 19) (.alloc _) (fun K hK => ?_))
            refine go_on hK ?_; clear hK
            refine alloc_arr digT rfl rfl ?_
            rintro g19 w9 hg19 s9 b9 e9
            go_wp2_with (with_reducible refine halt_op none (.store _ _ _) (fun K hK => ?_))
            refine go_on hK ?_; clear hK
            refine store_arr digT (l := up (vowB b)) rfl (.tmp 19) (.tmp 85) rfl rfl rfl (sum_len_u _) b9 (by simp [cellsOf]) ?_
            intro w10 b10 g10
            have hz10 := g10.size
            have E910 : Below w8.heap.size w8 w10 := (e9.mono (show w8.heap.size ≤ g19 by omega)).grown g10 (by omega) (fun q hq => by have e9 : g19 = q := Option.some.inj hq; omega)
            have C10 := hid b10
            have B10 := hid ((unhid B8').below E910 hg8)
            have E10 := hid ((unhid E8).trans (E910.mono hs8))
            have hg10 : g16 < w10.heap.size := by omega
            have hh10 : g19 < w10.heap.size := by omega
            have hs10 := (unhid E10).size
            clear hg19 s9 b9 e9 b10 g10 hz10 E910 B8'
            have TT := hid (error_nil 0 w10 ((unhid HH).of_below (unhid E10)))
            rw [show ((0 : Int) == 0) = true from rfl] at TT
            go_wp2_with fail
            refine (unhid TT).mono ?_
            rintro e w11 ⟨rfl, hb11⟩
            have C11 := hid ((unhid C10).below hb11 hh10)
            have B11 := hid ((unhid B10).below hb11 hg10)
            have E11 := hid ((unhid E10).trans (hb11.mono hs10))
            clear hb11 TT C10 B10
            go_wp2_with (with_reducible refine halt_op (some 93) (.load _ _) (fun K hK => ?_))
            refine go_on hK ?_; clear hK
            refine load_arr digT (l := up (vowB b)) rfl (.tmp 19) rfl rfl (unhid C11) (sum_len_u _) ?_
            refine load_arr digT (l := up (vowB b)) rfl (.tmp 16) rfl rfl (unhid B11) (sum_len_u _) ?_
            refine neq_arr digT noGuardD rfl (.tmp 93) (.tmp 94) _ rfl rfl rfl (sum_len_u _) (sum_len_u _) (b := false) (by simp) ?_
            go_wp2_with fail
            go_roundw
            case rel => exact ⟨i + 1, by omega, by go_num, E11⟩
            case measure => simp [intOf]; omega
          · have TN := hid (text_no b w2 HBk.out hvk)
            have VN := hid fun W : World => vow_no b W HBk.out hvk
            unfold bidV at VN
            clear hvk
            go_wp2_with fail
            refine (unhid TN).mono ?_
            rintro e w5 ⟨rfl, hb5⟩
            have B5 := hid ((unhid B2).below hb5 hg2)
            have E5 := hid ((unhid EQ2).trans (hb5.mono hs2))
            have hg5 : g16 < w5.heap.size := Nat.lt_of_lt_of_le hg2 hb5.size
            have hs5 := (unhid E5).size
            clear hb5 TN B2
            go_wp2_with (with_reducible refine halt_op (some 83) (.load _ _) (fun K hK => ?_))
            refine go_on hK ?_; clear hK
            refine load_mid bidT rfl (.tmp 82) rfl rfl (rng34 HRG hgb (unhid E5)) HLb.out ?_
            go_wp2_with fail
            refine (VN.out _).mono ?_
            rintro e w8 ⟨rfl, hb8⟩
            have B8' := hid ((unhid B5).below hb8 hg5)
            have E8 := hid ((unhid E5).trans (hb8.mono hs5))
            have hg8 : g16 < w8.heap.size := Nat.lt_of_lt_of_le hg5 hb8.size
            have hs8 := (unhid E8).size
            clear hb8 VN B5
            go_wp2_with (with_reducible refine halt_op (some 19) (.alloc _) (fun K hK => ?_))
            refine go_on hK ?_; clear hK
            refine alloc_arr digT rfl rfl ?_
            rintro g19 w9 hg19 s9 b9 e9
            go_wp2_with (with_reducible refine halt_op none (.store _ _ _) (fun K hK => ?_))
            refine go_on hK ?_; clear hK
            refine store_arr digT (l := List.replicate 32 0) rfl (.tmp 19) (.tmp 85) rfl rfl rfl (by simp) b9 (by simp [cellsOf]) ?_
            intro w10 b10 g10
            have hz10 := g10.size
            have E910 : Below w8.heap.size w8 w10 := (e9.mono (show w8.heap.size ≤ g19 by omega)).grown g10 (by omega) (fun q hq => by have e9 : g19 = q := Option.some.inj hq; omega)
            have C10 := hid b10
            have B10 := hid ((unhid B8').below E910 hg8)
            have E10 := hid ((unhid E8).trans (E910.mono hs8))
            have hg10 : g16 < w10.heap.size := by omega
            have hh10 : g19 < w10.heap.size := by omega
            have hs10 := (unhid E10).size
            clear hg19 s9 b9 e9 b10 g10 hz10 E910 B8'
            have TT := hid (error_err 2 2 (by decide) w10 ((unhid HH).of_below (unhid E10)))
            rw [show ((2 : Int) == 2) = true from rfl] at TT
            go_wp2_with fail
            refine (unhid TT).mono ?_
            rintro e w11 ⟨rfl, hb11⟩
            have C11 := hid ((unhid C10).below hb11 hh10)
            have B11 := hid ((unhid B10).below hb11 hg10)
            have E11 := hid ((unhid E10).trans (hb11.mono hs10))
            clear hb11 TT C10 B10
            go_wp2_with (with_reducible refine halt_op (some 93) (.load _ _) (fun K hK => ?_))
            refine go_on hK ?_; clear hK
            refine load_arr digT (l := List.replicate 32 0) rfl (.tmp 19) rfl rfl (unhid C11) (by simp) ?_
            refine load_arr digT (l := List.replicate 32 0) rfl (.tmp 16) rfl rfl (unhid B11) (by simp) ?_
            refine neq_arr digT noGuardD rfl (.tmp 93) (.tmp 94) _ rfl rfl rfl (by simp) (by simp) (b := false) (by simp) ?_
            go_wp2_with fail
            go_roundw
            case rel => exact ⟨i + 1, by omega, by go_num, E11⟩
            case measure => simp [intOf]; omega
        · have i3 : (n1 : Int) ≤ (i : Int) := by omega
          have hsb := (unhid HB).size
          obtain ⟨wq, hwq⟩ : ∃ wq : World, wq = wr := ⟨_, rfl⟩
          rw [← hwq] at HB hsb
          rw [← hwq]
          clear hwq
          go_wp2_with (with_reducible refine halt_op (some 98) (.build _ _) (fun K hK => ?_))
          refine go_on hK ?_; clear hK
          refine build_A rfl (.const (.int .i64 5)) rfl rfl ?_
          have VY := hid (vow_yes ⟨0, 5, List.replicate 32 0⟩ wq (bd_zero (by decide) (by decide) (by decide)) (by decide) ((unhid HL).below (unhid HB) h0) (Nat.lt_of_lt_of_le h0 hsb))
          unfold bidV at VY
          have HNE := hid vow5_ne
          have HLN : Hid ((up (vowB ⟨0, 5, List.replicate 32 0⟩)).length = 32) := hid (sum_len_u _)
          generalize vowB ⟨0, 5, List.replicate 32 0⟩ = vb at VY HNE HLN
          go_wp2_with fail
          refine (unhid VY).mono ?_
          rintro e w8 ⟨rfl, hb8⟩
          have E8 := hid ((unhid HB).trans (hb8.mono hsb))
          have hs8 := (unhid E8).size
          clear hb8 VY HB hsb
          go_wp2_with (with_reducible refine halt_op (some 21) (.alloc _) (fun K hK => ?_))
          refine go_on hK ?_; clear hK
          refine alloc_arr digT rfl rfl ?_
          rintro g21 w9 hg21 s9 b9 e9
          go_wp2_with (with_reducible refine halt_op none (.store _ _ _) (fun K hK => ?_))
          refine go_on hK ?_; clear hK
          refine store_arr digT (l := up vb) rfl (.tmp 21) (.tmp 100) rfl rfl rfl HLN.out b9 (by simp [cellsOf]) ?_
          intro w10 b10 g10
          have E910 : Below w8.heap.size w8 w10 := (e9.mono (show w8.heap.size ≤ g21 by omega)).grown g10 (by omega) (fun q hq => by have e9 : g21 = q := Option.some.inj hq; omega)
          have C10 := hid b10
          have E10 := hid ((unhid E8).trans (E910.mono hs8))
          clear hg21 s9 b9 e9 b10 g10 E910 E8
          go_wp2_with (with_reducible refine halt_op (some 105) (.load _ _) (fun K hK => ?_))
          refine go_on hK ?_; clear hK
          refine load_arr digT (l := up vb) rfl (.tmp 21) rfl rfl (unhid C10) HLN.out ?_
          refine build_Z rfl rfl ?_
          refine neq_arr digT noGuardD rfl (.tmp 105) (.tmp 106) _ rfl rfl rfl HLN.out (by simp) (b := true) (decide_eq_true HNE.out).symm ?_
          go_wp2_with fail
          go_ret
          exact ⟨rfl, unhid E10⟩
    · by_cases t3 : (100 : Int) < (n1 : Int)
      · have N1 := hid (award_no A0 A1 n0 c0 n1 c1 a2 w 4 (.inr ⟨by omega, .inr (by omega), rfl⟩))
        have TT := hid (error_err 4 4 (by decide) w (unhid HH))
        rw [show ((4 : Int) == 4) = true from rfl] at TT
        go_wp2_with fail
        refine (unhid N1).mono ?_
        rintro e w' ⟨rfl, rfl⟩
        go_wp2_with fail
        refine (unhid TT).mono ?_
        rintro e w7 ⟨rfl, hb7⟩
        have E7 := hid hb7
        clear hb7 TT N1
        go_wp2_with fail
        go_loopw [14] (fun v14 wr => ∃ i : Nat, i ≤ n1 ∧ v14 = .int .i64 i ∧ Hid (Below w.heap.size w wr)) (fun v14 _ => n1 - (intOf v14).toNat)
        case atStart => exact ⟨0, Nat.zero_le _, rfl, E7⟩
        case round =>
          obtain ⟨i, hi, rfl, HB⟩ := hrel
          by_cases hin : i < n1
          · obtain ⟨b, hb⟩ : ∃ b, bs[i]? = some b := ⟨_, List.getElem?_eq_getElem (by rw [HBL.out]; exact hin)⟩
            obtain ⟨gb, ob, rfl, hgb, HRG⟩ := bids_at (unhid HBR) HS.out hin hb
            have HBk := hid (HBK.out b (List.mem_of_getElem? hb))
            have HLb := hid (bc_len HBk.out.1)
            obtain ⟨wq, hwq⟩ : ∃ wq : World, wq = wr := ⟨_, rfl⟩
            rw [← hwq] at HB
            rw [← hwq]
            have hsq := (unhid HB).size
            have i1 : (0 : Int) ≤ (i : Int) := by omega
            have i2 : (i : Int) < (n1 : Int) := by omega
            clear hwq hb
            go_wp2_with (with_reducible refine halt_op (some 16) (.alloc _) (fun K hK => ?_))
            refine go_on hK ?_; clear hK
            refine alloc_arr digT rfl rfl ?_
            rintro g16 w2 hg16 s2 b2 e2
            have hw2 : wq.heap.size ≤ g16 := by omega
            have hg2 : g16 < w2.heap.size := by omega
            have B2 := hid b2
            have EQ2 := hid ((unhid HB).trans ((e2.mono hw2).mono hsq))
            clear hg16 s2 b2 e2
            have hs2 := (unhid EQ2).size
            go_wp2_with (with_reducible refine halt_op (some 72) (.load _ _) (fun K hK => ?_))
            refine go_on hK ?_; clear hK
            refine load_mid bidT rfl (.tmp 71) rfl rfl (rng34 HRG hgb (unhid EQ2)) HLb.out ?_
            by_cases hvk : vowOk b
            · have TY := hid (text_yes b w2 HBk.out hvk)
              have HVK := hid hvk
              clear hvk
              go_wp2_with fail
              refine (unhid TY).mono ?_
              rintro e w5 ⟨A5, c5, rfl, r5, hb5⟩
              have B5 := hid ((unhid B2).below hb5 hg2)
              have E5 := hid ((unhid EQ2).trans (hb5.mono hs2))
              have hg5 : g16 < w5.heap.size := Nat.lt_of_lt_of_le hg2 hb5.size
              have CS := hid (rsum_vow b A5 c5 w5 w5 HBk.out HVK.out r5 (Below.refl _ _))
              have hs5 := (unhid E5).size
              clear r5 hb5 TY
              go_wp2_with fail
              refine (unhid CS).mono ?_
              rintro e w6 ⟨rfl, hb6⟩
              have B6 := hid ((unhid B5).below hb6 hg5)
              have E6 := hid ((unhid E5).trans (hb6.mono hs5))
              have hg6 : g16 < w6.heap.size := Nat.lt_of_lt_of_le hg5 hb6.size
              have hs6 := (unhid E6).size
              clear hb6 CS
              go_wp2_with (with_reducible refine halt_op none (.store _ _ _) (fun K hK => ?_))
              refine go_on hK ?_; clear hK
              refine store_arr digT (l := up (vowB b)) rfl (.tmp 16) (.tmp 78) rfl rfl rfl (sum_len_u _) (unhid B6) (by simp [cellsOf]) ?_
              intro w7 b7 g7
              have hz7 := g7.size
              have B7 := hid b7
              have E7' := hid ((unhid E6).grown g7 hs6 (fun q hq => by have e9 : g16 = q := Option.some.inj hq; omega))
              have hg7 : g16 < w7.heap.size := by omega
              have hs7 := (unhid E7').size
              clear b7 g7 hz7 B6 B5 B2
              go_wp2_with (with_reducible refine halt_op (some 83) (.load _ _) (fun K hK => ?_))
              refine go_on hK ?_; clear hK
              refine load_mid bidT rfl (.tmp 82) rfl rfl (rng34 HRG hgb (unhid E7')) HLb.out ?_
              have VY := hid (vow_yes b w7 HBk.out HVK.out ((unhid HL).below (unhid E7') h0) (Nat.lt_of_lt_of_le h0 hs7))
              unfold bidV at VY
              go_wp2_with fail
              refine (unhid VY).mono ?_
              rintro e w8 ⟨rfl, hb8⟩
              have B8' := hid ((unhid B7).below hb8 hg7)
              have E8 := hid ((unhid E7').trans (hb8.mono hs7))
              have hg8 : g16 < w8.heap.size := Nat.lt_of_lt_of_le hg7 hb8.size
              have hs8 := (unhid E8).size
              clear hb8 VY B7
              go_wp2_with (with_reducible refine halt_op (some 19) (.alloc _) (fun K hK => ?_))
              refine go_on hK ?_; clear hK
              refine alloc_arr digT rfl rfl ?_
              rintro g19 w9 hg19 s9 b9 e9
              go_wp2_with (with_reducible refine halt_op none (.store _ _ _) (fun K hK => ?_))
              refine go_on hK ?_; clear hK
              refine store_arr digT (l := up (vowB b)) rfl (.tmp 19) (.tmp 85) rfl rfl rfl (sum_len_u _) b9 (by simp [cellsOf]) ?_
              intro w10 b10 g10
              have hz10 := g10.size
              have E910 : Below w8.heap.size w8 w10 := (e9.mono (show w8.heap.size ≤ g19 by omega)).grown g10 (by omega) (fun q hq => by have e9 : g19 = q := Option.some.inj hq; omega)
              have C10 := hid b10
              have B10 := hid ((unhid B8').below E910 hg8)
              have E10 := hid ((unhid E8).trans (E910.mono hs8))
              have hg10 : g16 < w10.heap.size := by omega
              have hh10 : g19 < w10.heap.size := by omega
              have hs10 := (unhid E10).size
              clear hg19 s9 b9 e9 b10 g10 hz10 E910 B8'
              have TT := hid (error_nil 0 w10 ((unhid HH).of_below (unhid E10)))
              rw [show ((0 : Int) == 0) = true from rfl] at TT
              go_wp2_with fail
              refine (unhid TT).mono ?_
              rintro e w11 ⟨rfl, hb11⟩
              have C11 := hid ((unhid C10).below hb11 hh10)
              have B11 := hid ((unhid B10).below hb11 hg10)
              have E11 := hid ((unhid E10).trans (hb11.mono hs10))
              clear hb11 TT C10 B10
              go_wp2_with (with_reducible refine halt_op (some 93) (.load _ _) (fun K hK => ?_))
              refine go_on hK ?_; clear hK
              refine load_arr digT (l := up (vowB b)) rfl (.tmp 19) rfl rfl (unhid C11) (sum_len_u _) ?_
              refine load_arr digT (l := up (vowB b)) rfl (.tmp 16) rfl rfl (unhid B11) (sum_len_u _) ?_
              refine neq_arr digT noGuardD rfl (.tmp 93) (.tmp 94) _ rfl rfl rfl (sum_len_u _) (sum_len_u _) (b := false) (by simp) ?_
              go_wp2_with fail
              go_roundw
              case rel => exact ⟨i + 1, by omega, by go_num, E11⟩
              case measure => simp [intOf]; omega
            · have TN := hid (text_no b w2 HBk.out hvk)
              have VN := hid fun W : World => vow_no b W HBk.out hvk
              unfold bidV at VN
              clear hvk
              go_wp2_with fail
              refine (unhid TN).mono ?_
              rintro e w5 ⟨rfl, hb5⟩
              have B5 := hid ((unhid B2).below hb5 hg2)
              have E5 := hid ((unhid EQ2).trans (hb5.mono hs2))
              have hg5 : g16 < w5.heap.size := Nat.lt_of_lt_of_le hg2 hb5.size
              have hs5 := (unhid E5).size
              clear hb5 TN B2
              go_wp2_with (with_reducible refine halt_op (some 83) (.load _ _) (fun K hK => ?_))
              refine go_on hK ?_; clear hK
              refine load_mid bidT rfl (.tmp 82) rfl rfl (rng34 HRG hgb (unhid E5)) HLb.out ?_
              go_wp2_with fail
              refine (VN.out _).mono ?_
              rintro e w8 ⟨rfl, hb8⟩
              have B8' := hid ((unhid B5).below hb8 hg5)
              have E8 := hid ((unhid E5).trans (hb8.mono hs5))
              have hg8 : g16 < w8.heap.size := Nat.lt_of_lt_of_le hg5 hb8.size
              have hs8 := (unhid E8).size
              clear hb8 VN B5
              go_wp2_with (with_reducible refine halt_op (some 19) (.alloc _) (fun K hK => ?_))
              refine go_on hK ?_; clear hK
              refine alloc_arr digT rfl rfl ?_
              rintro g19 w9 hg19 s9 b9 e9
              go_wp2_with (with_reducible refine halt_op none (.store _ _ _) (fun K hK => ?_))
              refine go_on hK ?_; clear hK
              refine store_arr digT (l := List.replicate 32 0) rfl (.tmp 19) (.tmp 85) rfl rfl rfl (by simp) b9 (by simp [cellsOf]) ?_
              intro w10 b10 g10
              have hz10 := g10.size
              have E910 : Below w8.heap.size w8 w10 := (e9.mono (show w8.heap.size ≤ g19 by omega)).grown g10 (by omega) (fun q hq => by have e9 : g19 = q := Option.some.inj hq; omega)
              have C10 := hid b10
              have B10 := hid ((unhid B8').below E910 hg8)
              have E10 := hid ((unhid E8).trans (E910.mono hs8))
              have hg10 : g16 < w10.heap.size := by omega
              have hh10 : g19 < w10.heap.size := by omega
              have hs10 := (unhid E10).size
              clear hg19 s9 b9 e9 b10 g10 hz10 E910 B8'
              have TT := hid (error_err 2 2 (by decide) w10 ((unhid HH).of_below (unhid E10)))
              rw [show ((2 : Int) == 2) = true from rfl] at TT
              go_wp2_with fail
              refine (unhid TT).mono ?_
              rintro e w11 ⟨rfl, hb11⟩
              have C11 := hid ((unhid C10).below hb11 hh10)
              have B11 := hid ((unhid B10).below hb11 hg10)
              have E11 := hid ((unhid E10).trans (hb11.mono hs10))
              clear hb11 TT C10 B10
              go_wp2_with (with_reducible refine halt_op (some 93) (.load _ _) (fun K hK => ?_))
              refine go_on hK ?_; clear hK
              refine load_arr digT (l := List.replicate 32 0) rfl (.tmp 19) rfl rfl (unhid C11) (by simp) ?_
              refine load_arr digT (l := List.replicate 32 0) rfl (.tmp 16) rfl rfl (unhid B11) (by simp) ?_
              refine neq_arr digT noGuardD rfl (.tmp 93) (.tmp 94) _ rfl rfl rfl (by simp) (by simp) (b := false) (by simp) ?_
              go_wp2_with fail
              go_roundw
              case rel => exact ⟨i + 1, by omega, by go_num, E11⟩
              case measure => simp [intOf]; omega
          · have i3 : (n1 : Int) ≤ (i : Int) := by omega
            have hsb := (unhid HB).size
            obtain ⟨wq, hwq⟩ : ∃ wq : World, wq = wr := ⟨_, rfl⟩
            rw [← hwq] at HB hsb
            rw [← hwq]
            clear hwq
            go_wp2_with (with_reducible refine halt_op (some 98) (.build _ _) (fun K hK => ?_))
            refine go_on hK ?_; clear hK
            refine build_A rfl (.const (.int .i64 5)) rfl rfl ?_
            have VY := hid (vow_yes ⟨0, 5, List.replicate 32 0⟩ wq (bd_zero (by decide) (by decide) (by decide)) (by decide) ((unhid HL).below (unhid HB) h0) (Nat.lt_of_lt_of_le h0 hsb))
            unfold bidV at VY
            have HNE := hid vow5_ne
            have HLN : Hid ((up (vowB ⟨0, 5, List.replicate 32 0⟩)).length = 32) := hid (sum_len_u _)
            generalize vowB ⟨0, 5, List.replicate 32 0⟩ = vb at VY HNE HLN
            go_wp2_with fail
            refine (unhid VY).mono ?_
            rintro e w8 ⟨rfl, hb8⟩
            have E8 := hid ((unhid HB).trans (hb8.mono hsb))
            have hs8 := (unhid E8).size
            clear hb8 VY HB hsb
            go_wp2_with (with_reducible refine halt_op (some 21) (.alloc _) (fun K hK => ?_))
            refine go_on hK ?_; clear hK
            refine alloc_arr digT rfl rfl ?_
            rintro g21 w9 hg21 s9 b9 e9
            go_wp2_with (with_reducible refine halt_op none (.store _ _ _) (fun K hK => ?_))
            refine go_on hK ?_; clear hK
            refine store_arr digT (l := up vb) rfl (.tmp 21) (.tmp 100) rfl rfl rfl HLN.out b9 (by simp [cellsOf]) ?_
            intro w10 b10 g10
            have E910 : Below w8.heap.size w8 w10 := (e9.mono (show w8.heap.size ≤ g21 by omega)).grown g10 (by omega) (fun q hq => by have e9 : g21 = q := Option.some.inj hq; omega)
            have C10 := hid b10
            have E10 := hid ((unhid E8).trans (E910.mono hs8))
            clear hg21 s9 b9 e9 b10 g10 E910 E8
            go_wp2_with (with_reducible refine halt_op (some 105) (.load _ _) (fun K hK => ?_))
            refine go_on hK ?_; clear hK
            refine load_arr digT (l := up vb) rfl (.tmp 21) rfl rfl (unhid C10) HLN.out ?_
            refine build_Z rfl rfl ?_
            refine neq_arr digT noGuardD rfl (.tmp 105) (.tmp 106) _ rfl rfl rfl HLN.out (by simp) (b := true) (decide_eq_true HNE.out).symm ?_
            go_wp2_with fail
            go_ret
            exact ⟨rfl, unhid E10⟩
      · have y0 : 0 ≤ a2 := by omega
        have y1 : n0 ≤ 100 := by omega
        have y2 : n1 ≤ 100 := by omega
        have YA := hid (awarded_any Vs bs A0 A1 n0 c0 n1 c1 w.heap.size a2 w (unhid HV) HVL.out HV2.out (unhid HBR) HBK.out HBL.out (Nat.le_refl _) y2)
        go_wp2_with fail
        refine (unhid YA).mono ?_
        rintro e w5 ⟨⟨x, p, haw, rfl⟩, hb5⟩
        have HAW := hid haw; have E5 := hid hb5
        have hs5 := hb5.size
        have Y1 := hid (award_yes Vs bs A0 A1 n0 c0 n1 c1 w.heap.size a2 w5 ((unhid HV).below hb5) HVL.out HV2.out ((unhid HBR).below hb5) HBL.out HBK.out hs5 y0 y1 y2 ((unhid HL).below hb5 h0) (Nat.lt_of_lt_of_le h0 hs5))
        clear haw hb5 YA
        go_wp2_with fail
        refine (unhid Y1).mono ?_
        rintro e w6 ⟨⟨cs, p1, s1, rfl⟩, hb6⟩
        obtain ⟨k1, k2⟩ := (award_aw a2 p1 s1).unique Mb_fun HAW.out
        rw [k1, k2]
        have E6 := hid ((unhid E5).trans (hb6.mono hs5))
        have hs6 := (unhid E6).size
        have TT := hid (error_nil 0 w6 ((unhid HH).of_below (unhid E6)))
        rw [show ((0 : Int) == 0) = true from rfl] at TT
        clear k1 k2 p1 s1 hb6 Y1 HAW E5 hs5
        go_wp2_with fail
        refine (unhid TT).mono ?_
        rintro e w7 ⟨rfl, hb7⟩
        have E7 := hid ((unhid E6).trans (hb7.mono hs6))
        clear hb7 TT E6 hs6
        go_wp2_with fail
        go_loopw [14] (fun v14 wr => ∃ i : Nat, i ≤ n1 ∧ v14 = .int .i64 i ∧ Hid (Below w.heap.size w wr)) (fun v14 _ => n1 - (intOf v14).toNat)
        case atStart => exact ⟨0, Nat.zero_le _, rfl, E7⟩
        case round =>
          obtain ⟨i, hi, rfl, HB⟩ := hrel
          by_cases hin : i < n1
          · obtain ⟨b, hb⟩ : ∃ b, bs[i]? = some b := ⟨_, List.getElem?_eq_getElem (by rw [HBL.out]; exact hin)⟩
            obtain ⟨gb, ob, rfl, hgb, HRG⟩ := bids_at (unhid HBR) HS.out hin hb
            have HBk := hid (HBK.out b (List.mem_of_getElem? hb))
            have HLb := hid (bc_len HBk.out.1)
            obtain ⟨wq, hwq⟩ : ∃ wq : World, wq = wr := ⟨_, rfl⟩
            rw [← hwq] at HB
            rw [← hwq]
            have hsq := (unhid HB).size
            have i1 : (0 : Int) ≤ (i : Int) := by omega
            have i2 : (i : Int) < (n1 : Int) := by omega
            clear hwq hb
            go_wp2_with (with_reducible refine halt_op (some 16) (.alloc _) (fun K hK => ?_))
            refine go_on hK ?_; clear hK
            refine alloc_arr digT rfl rfl ?_
            rintro g16 w2 hg16 s2 b2 e2
            have hw2 : wq.heap.size ≤ g16 := by omega
            have hg2 : g16 < w2.heap.size := by omega
            have B2 := hid b2
            have EQ2 := hid ((unhid HB).trans ((e2.mono hw2).mono hsq))
            clear hg16 s2 b2 e2
            have hs2 := (unhid EQ2).size
            go_wp2_with (with_reducible refine halt_op (some 72) (.load _ _) (fun K hK => ?_))
            refine go_on hK ?_; clear hK
            refine load_mid bidT rfl (.tmp 71) rfl rfl (rng34 HRG hgb (unhid EQ2)) HLb.out ?_
            by_cases hvk : vowOk b
            · have TY := hid (text_yes b w2 HBk.out hvk)
              have HVK := hid hvk
              clear hvk
              go_wp2_with fail
              refine (unhid TY).mono ?_
              rintro e w5 ⟨A5, c5, rfl, r5, hb5⟩
              have B5 := hid ((unhid B2).below hb5 hg2)
              have E5 := hid ((unhid EQ2).trans (hb5.mono hs2))
              have hg5 : g16 < w5.heap.size := Nat.lt_of_lt_of_le hg2 hb5.size
              have CS := hid (rsum_vow b A5 c5 w5 w5 HBk.out HVK.out r5 (Below.refl _ _))
              have hs5 := (unhid E5).size
              clear r5 hb5 TY
              go_wp2_with fail
              refine (unhid CS).mono ?_
              rintro e w6 ⟨rfl, hb6⟩
              have B6 := hid ((unhid B5).below hb6 hg5)
              have E6 := hid ((unhid E5).trans (hb6.mono hs5))
              have hg6 : g16 < w6.heap.size := Nat.lt_of_lt_of_le hg5 hb6.size
              have hs6 := (unhid E6).size
              clear hb6 CS
              go_wp2_with (with_reducible refine halt_op none (.store _ _ _) (fun K hK => ?_))
              refine go_on hK ?_; clear hK
              refine store_arr digT (l := up (vowB b)) rfl (.tmp 16) (.tmp 78) rfl rfl rfl (sum_len_u _) (unhid B6) (by simp [cellsOf]) ?_
              intro w7 b7 g7
              have hz7 := g7.size
              have B7 := hid b7
              have E7' := hid ((unhid E6).grown g7 hs6 (fun q hq => by have e9 : g16 = q := Option.some.inj hq; omega))
              have hg7 : g16 < w7.heap.size := by omega
              have hs7 := (unhid E7').size
              clear b7 g7 hz7 B6 B5 B2
              go_wp2_with (with_reducible refine halt_op (some 83) (.load _ _) (fun K hK => ?_))
              refine go_on hK ?_; clear hK
              refine load_mid bidT rfl (.tmp 82) rfl rfl (rng34 HRG hgb (unhid E7')) HLb.out ?_
              have VY := hid (vow_yes b w7 HBk.out HVK.out ((unhid HL).below (unhid E7') h0) (Nat.lt_of_lt_of_le h0 hs7))
              unfold bidV at VY
              go_wp2_with fail
              refine (unhid VY).mono ?_
              rintro e w8 ⟨rfl, hb8⟩
              have B8' := hid ((unhid B7).below hb8 hg7)
              have E8 := hid ((unhid E7').trans (hb8.mono hs7))
              have hg8 : g16 < w8.heap.size := Nat.lt_of_lt_of_le hg7 hb8.size
              have hs8 := (unhid E8).size
              clear hb8 VY B7
              go_wp2_with (with_reducible refine halt_op (some 19) (.alloc _) (fun K hK => ?_))
              refine go_on hK ?_; clear hK
              refine alloc_arr digT rfl rfl ?_
              rintro g19 w9 hg19 s9 b9 e9
              go_wp2_with (with_reducible refine halt_op none (.store _ _ _) (fun K hK => ?_))
              refine go_on hK ?_; clear hK
              refine store_arr digT (l := up (vowB b)) rfl (.tmp 19) (.tmp 85) rfl rfl rfl (sum_len_u _) b9 (by simp [cellsOf]) ?_
              intro w10 b10 g10
              have hz10 := g10.size
              have E910 : Below w8.heap.size w8 w10 := (e9.mono (show w8.heap.size ≤ g19 by omega)).grown g10 (by omega) (fun q hq => by have e9 : g19 = q := Option.some.inj hq; omega)
              have C10 := hid b10
              have B10 := hid ((unhid B8').below E910 hg8)
              have E10 := hid ((unhid E8).trans (E910.mono hs8))
              have hg10 : g16 < w10.heap.size := by omega
              have hh10 : g19 < w10.heap.size := by omega
              have hs10 := (unhid E10).size
              clear hg19 s9 b9 e9 b10 g10 hz10 E910 B8'
              have TT := hid (error_nil 0 w10 ((unhid HH).of_below (unhid E10)))
              rw [show ((0 : Int) == 0) = true from rfl] at TT
              go_wp2_with fail
              refine (unhid TT).mono ?_
              rintro e w11 ⟨rfl, hb11⟩
              have C11 := hid ((unhid C10).below hb11 hh10)
              have B11 := hid ((unhid B10).below hb11 hg10)
              have E11 := hid ((unhid E10).trans (hb11.mono hs10))
              clear hb11 TT C10 B10
              go_wp2_with (with_reducible refine halt_op (some 93) (.load _ _) (fun K hK => ?_))
              refine go_on hK ?_; clear hK
              refine load_arr digT (l := up (vowB b)) rfl (.tmp 19) rfl rfl (unhid C11) (sum_len_u _) ?_
              refine load_arr digT (l := up (vowB b)) rfl (.tmp 16) rfl rfl (unhid B11) (sum_len_u _) ?_
              refine neq_arr digT noGuardD rfl (.tmp 93) (.tmp 94) _ rfl rfl rfl (sum_len_u _) (sum_len_u _) (b := false) (by simp) ?_
              go_wp2_with fail
              go_roundw
              case rel => exact ⟨i + 1, by omega, by go_num, E11⟩
              case measure => simp [intOf]; omega
            · have TN := hid (text_no b w2 HBk.out hvk)
              have VN := hid fun W : World => vow_no b W HBk.out hvk
              unfold bidV at VN
              clear hvk
              go_wp2_with fail
              refine (unhid TN).mono ?_
              rintro e w5 ⟨rfl, hb5⟩
              have B5 := hid ((unhid B2).below hb5 hg2)
              have E5 := hid ((unhid EQ2).trans (hb5.mono hs2))
              have hg5 : g16 < w5.heap.size := Nat.lt_of_lt_of_le hg2 hb5.size
              have hs5 := (unhid E5).size
              clear hb5 TN B2
              go_wp2_with (with_reducible refine halt_op (some 83) (.load _ _) (fun K hK => ?_))
              refine go_on hK ?_; clear hK
              refine load_mid bidT rfl (.tmp 82) rfl rfl (rng34 HRG hgb (unhid E5)) HLb.out ?_
              go_wp2_with fail
              refine (VN.out _).mono ?_
              rintro e w8 ⟨rfl, hb8⟩
              have B8' := hid ((unhid B5).below hb8 hg5)
              have E8 := hid ((unhid E5).trans (hb8.mono hs5))
              have hg8 : g16 < w8.heap.size := Nat.lt_of_lt_of_le hg5 hb8.size
              have hs8 := (unhid E8).size
              clear hb8 VN B5
              go_wp2_with (with_reducible refine halt_op (some 19) (.alloc _) (fun K hK => ?_))
              refine go_on hK ?_; clear hK
              refine alloc_arr digT rfl rfl ?_
              rintro g19 w9 hg19 s9 b9 e9
              go_wp2_with (with_reducible refine halt_op none (.store _ _ _) (fun K hK => ?_))
              refine go_on hK ?_; clear hK
              refine store_arr digT (l := List.replicate 32 0) rfl (.tmp 19) (.tmp 85) rfl rfl rfl (by simp) b9 (by simp [cellsOf]) ?_
              intro w10 b10 g10
              have hz10 := g10.size
              have E910 : Below w8.heap.size w8 w10 := (e9.mono (show w8.heap.size ≤ g19 by omega)).grown g10 (by omega) (fun q hq => by have e9 : g19 = q := Option.some.inj hq; omega)
              have C10 := hid b10
              have B10 := hid ((unhid B8').below E910 hg8)
              have E10 := hid ((unhid E8).trans (E910.mono hs8))
              have hg10 : g16 < w10.heap.size := by omega
              have hh10 : g19 < w10.heap.size := by omega
              have hs10 := (unhid E10).size
              clear hg19 s9 b9 e9 b10 g10 hz10 E910 B8'
              have TT := hid (error_err 2 2 (by decide) w10 ((unhid HH).of_below (unhid E10)))
              rw [show ((2 : Int) == 2) = true from rfl] at TT
              go_wp2_with fail
              refine (unhid TT).mono ?_
              rintro e w11 ⟨rfl, hb11⟩
              have C11 := hid ((unhid C10).below hb11 hh10)
              have B11 := hid ((unhid B10).below hb11 hg10)
              have E11 := hid ((unhid E10).trans (hb11.mono hs10))
              clear hb11 TT C10 B10
              go_wp2_with (with_reducible refine halt_op (some 93) (.load _ _) (fun K hK => ?_))
              refine go_on hK ?_; clear hK
              refine load_arr digT (l := List.replicate 32 0) rfl (.tmp 19) rfl rfl (unhid C11) (by simp) ?_
              refine load_arr digT (l := List.replicate 32 0) rfl (.tmp 16) rfl rfl (unhid B11) (by simp) ?_
              refine neq_arr digT noGuardD rfl (.tmp 93) (.tmp 94) _ rfl rfl rfl (by simp) (by simp) (b := false) (by simp) ?_
              go_wp2_with fail
              go_roundw
              case rel => exact ⟨i + 1, by omega, by go_num, E11⟩
              case measure => simp [intOf]; omega
          · have i3 : (n1 : Int) ≤ (i : Int) := by omega
            have hsb := (unhid HB).size
            obtain ⟨wq, hwq⟩ : ∃ wq : World, wq = wr := ⟨_, rfl⟩
            rw [← hwq] at HB hsb
            rw [← hwq]
            clear hwq
            go_wp2_with (with_reducible refine halt_op (some 98) (.build _ _) (fun K hK => ?_))
            refine go_on hK ?_; clear hK
            refine build_A rfl (.const (.int .i64 5)) rfl rfl ?_
            have VY := hid (vow_yes ⟨0, 5, List.replicate 32 0⟩ wq (bd_zero (by decide) (by decide) (by decide)) (by decide) ((unhid HL).below (unhid HB) h0) (Nat.lt_of_lt_of_le h0 hsb))
            unfold bidV at VY
            have HNE := hid vow5_ne
            have HLN : Hid ((up (vowB ⟨0, 5, List.replicate 32 0⟩)).length = 32) := hid (sum_len_u _)
            generalize vowB ⟨0, 5, List.replicate 32 0⟩ = vb at VY HNE HLN
            go_wp2_with fail
            refine (unhid VY).mono ?_
            rintro e w8 ⟨rfl, hb8⟩
            have E8 := hid ((unhid HB).trans (hb8.mono hsb))
            have hs8 := (unhid E8).size
            clear hb8 VY HB hsb
            go_wp2_with (with_reducible refine halt_op (some 21) (.alloc _) (fun K hK => ?_))
            refine go_on hK ?_; clear hK
            refine alloc_arr digT rfl rfl ?_
            rintro g21 w9 hg21 s9 b9 e9
            go_wp2_with (with_reducible refine halt_op none (.store _ _ _) (fun K hK => ?_))
            refine go_on hK ?_; clear hK
            refine store_arr digT (l := up vb) rfl (.tmp 21) (.tmp 100) rfl rfl rfl HLN.out b9 (by simp [cellsOf]) ?_
            intro w10 b10 g10
            have E910 : Below w8.heap.size w8 w10 := (e9.mono (show w8.heap.size ≤ g21 by omega)).grown g10 (by omega) (fun q hq => by have e9 : g21 = q := Option.some.inj hq; omega)
            have C10 := hid b10
            have E10 := hid ((unhid E8).trans (E910.mono hs8))
            clear hg21 s9 b9 e9 b10 g10 E910 E8
            go_wp2_with (with_reducible refine halt_op (some 105) (.load _ _) (fun K hK => ?_))
            refine go_on hK ?_; clear hK
            refine load_arr digT (l := up vb) rfl (.tmp 21) rfl rfl (unhid C10) HLN.out ?_
            refine build_Z rfl rfl ?_
            refine neq_arr digT noGuardD rfl (.tmp 105) (.tmp 106) _ rfl rfl rfl HLN.out (by simp) (b := true) (decide_eq_true HNE.out).symm ?_
            go_wp2_with fail
            go_ret
            exact ⟨rfl, unhid E10⟩
end Go.Proofs.YtlaoijnlemgdfaaDoor

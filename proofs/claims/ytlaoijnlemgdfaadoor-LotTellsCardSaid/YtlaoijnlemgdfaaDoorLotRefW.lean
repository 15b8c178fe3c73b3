/- The walks of the reference's Picked and Ordered, and of moneyersame.Ints. -/
import Derived.Test.YtlaoijnlemgdfaaDoorLotW
import Derived.Test.YtlaoijnlemgdfaaDoorPutW
import Derived.Test.YtlaoijnlemgdfaaDoorRefSumW
namespace Go.Proofs.YtlaoijnlemgdfaaDoor
set_option linter.unusedVariables false
open Go.RowKit Go.Mny
theorem picked_any (d : List Nat) (n : Nat) (w : World) (hd : d.length = 32) (d8 : B8 d) (hn : n ≤ 2147483647) :
    Calls Tryd.prog 20 #[.agg (cellsOf .u8 (up d)), .int .i64 (n : Int)] w fun e w' => e = .returned (.int .i64 (pickN d n : Nat)) ∧ Below w.heap.size w w' := by
  obtain ⟨a, d1, rfl⟩ : ∃ a d1, d = a :: d1 := by cases d with | nil => simp at hd | cons a d => exact ⟨a, d, rfl⟩
  obtain ⟨b, d2, rfl⟩ : ∃ a d2, d1 = a :: d2 := by cases d1 with | nil => simp at hd | cons a d => exact ⟨a, d, rfl⟩
  obtain ⟨c, d3, rfl⟩ : ∃ a d3, d2 = a :: d3 := by cases d2 with | nil => simp at hd | cons a d => exact ⟨a, d, rfl⟩
  obtain ⟨e, d4, rfl⟩ : ∃ a d4, d3 = a :: d4 := by cases d3 with | nil => simp at hd | cons a d => exact ⟨a, d, rfl⟩
  have ha : a < 256 := d8 a (by simp); have hb : b < 256 := d8 b (by simp); have hc : c < 256 := d8 c (by simp); have he : e < 256 := d8 e (by simp)
  have hlt := wordOf_lt _ d8
  have hpk : Hid (pickN (a :: b :: c :: e :: d4) n = Sh2.word a b c e * n / 4294967296) := hid (by simp [pickN, wordOf])
  have hwe : wordOf (a :: b :: c :: e :: d4) = Sh2.word a b c e := by simp [wordOf]
  rw [hwe] at hlt
  go_enter Tryd.func20, Tryd.ntmps20
  go_wp2_with (with_reducible refine halt_op (some 2) (.box _ _) (fun K hK => ?_))
  refine go_on hK ?_; clear hK
  refine box_arr (k := .u8) (l := up (a :: b :: c :: e :: d4)) rfl (.tmp 0) rfl rfl ?_
  rintro g2 w1 hg2 s1 b1 e1
  have c0 : w1.cell? ⟨g2, 0, none⟩ = some (.int .u8 (a : Int)) := (b1.cell 0).trans (by simp [cellsOf, up])
  have c1 : w1.cell? ⟨g2, 1, none⟩ = some (.int .u8 (b : Int)) := (b1.cell 1).trans (by simp [cellsOf, up])
  have c2 : w1.cell? ⟨g2, 2, none⟩ = some (.int .u8 (c : Int)) := (b1.cell 2).trans (by simp [cellsOf, up])
  have c3 : w1.cell? ⟨g2, 3, none⟩ = some (.int .u8 (e : Int)) := (b1.cell 3).trans (by simp [cellsOf, up])
  have E1 := hid (e1.mono (show w.heap.size ≤ g2 by omega))
  have R1 : Hid (Row w1 w1.heap.size 1 (some ⟨g2, 0, none⟩) 4 (bytes [a, b, c, e])) := hid ⟨by rw [bytes_len]; rfl, fun _ => ⟨g2, 0, rfl, by omega, fun j hj => by
    rw [bytes_len] at hj
    match j, hj with
    | 0, _ => exact c0
    | 1, _ => exact c1
    | 2, _ => exact c2
    | 3, _ => exact c3⟩⟩
  clear e1 b1 s1 hg2 c0 c1 c2 c3 hd d8 hwe
  go_wp2_with fail
  refine (num_any a b c e _ _ _ _ (unhid R1) ha hb hc he).mono ?_
  rintro e w' ⟨rfl, rfl⟩
  obtain ⟨x, hx⟩ : ∃ x, Sh2.word a b c e = x := ⟨_, rfl⟩
  rw [hx] at hlt hpk
  rw [hx]
  have hmul : x * n < 9223372036854775808 := by
    have h1 : x * n ≤ x * 2147483647 := Nat.mul_le_mul_left _ hn
    omega
  have m1 : (0 : Int) ≤ (x : Int) * (n : Int) := by rw [← Int.natCast_mul]; omega
  have m2 : (x : Int) * (n : Int) < 9223372036854775808 := by rw [← Int.natCast_mul]; omega
  have HM : Hid ((x : Int) * (n : Int) = ((x * n : Nat) : Int)) := hid (by rw [Int.natCast_mul])
  clear hx hmul R1
  go_wp2_with fail
  go_ret
  refine ⟨?_, unhid E1⟩
  rw [hpk.out]
  rw [HM.out]
  congr 2
theorem be4_bytes {m : Nat} (h : m < 1000) : Siz.bytesOf 4 (m : Int) = up (be4 m) := by
  have e : Siz.bytesOf 4 (m : Int) = [(m : Int) / 16777216 % 256, (m : Int) / 65536 % 256, (m : Int) / 256 % 256, (m : Int) / 1 % 256] := rfl
  have f : up (be4 m) = [((m / 16777216 % 256 : Nat) : Int), ((m / 65536 % 256 : Nat) : Int), ((m / 256 % 256 : Nat) : Int), ((m % 256 : Nat) : Int)] := rfl
  rw [e, f]
  simp
def OrderedP (d : List Nat) (n : Nat) (w : World) (e : Ending) (w' : World) : Prop := ∃ A c, e = .returned (.slice A n c) ∧ Row w' w'.heap.size 1 A n (nums (orderN d n)) ∧ Below w.heap.size w w'
theorem nums_snoc (i : Nat) : nums (List.range i) ++ [.int .i64 (i : Int)] = nums (List.range (i + 1)) := by
  simp [nums, up, List.range_succ]
set_option maxHeartbeats 4000000 in
set_option maxRecDepth 100000 in
theorem ordered_any (d : List Nat) (n : Nat) (w : World) (hd : d.length = 32) (d8 : B8 d) (hn : n ≤ 1000) :
    Calls Tryd.prog 21 #[.agg (cellsOf .u8 (up d)), .int .i64 (n : Int)] w (OrderedP d n w) := by
  have D8 := hid d8; have HD := hid hd
  clear d8 hd
  go_enter Tryd.func21, Tryd.ntmps21
  go_wp2_with (with_reducible refine halt_op (some 2) (.box _ _) (fun K hK => ?_))
  refine go_on hK ?_; clear hK
  refine box_arr (k := .u8) (l := up d) rfl (.tmp 0) rfl rfl ?_
  rintro g2 w1 hg2 s1 b1 e1
  have B1 := hid b1; have E1 := hid (e1.mono (show w.heap.size ≤ g2 by omega))
  have hz : w.heap.size ≤ g2 := by omega
  have hz1 : g2 < w1.heap.size := by omega
  clear b1 e1 s1 hg2
  go_wp2_with fail
  go_loopw [5, 6] (fun v5 v6 wr => ∃ (i : Nat) (A : Option Addr) (c : Nat), i ≤ n ∧ v6 = .int .i64 i ∧ v5 = .slice A i c ∧ Hid (Own wr w1.heap.size 3 1 A i c (nums (List.range i))) ∧ Hid (Below w1.heap.size w1 wr)) (fun _ v6 _ => n - (intOf v6).toNat)
  case atStart => exact ⟨0, none, 0, Nat.zero_le _, rfl, rfl, Own.none _ _ _ _, Below.refl _ _⟩
  case round =>
    obtain ⟨i, A, c, hi, rfl, rfl, HO, HB⟩ := hrel
    by_cases hlt : i < n
    · have i2 : (i : Int) < (n : Int) := by omega
      have bs := (unhid HB).size
      go_wp2_with (at_builtin; refine halt_at (fun K hK => ?_))
      refine go_on hK ?_; clear hK
      refine app_step intsE rfl (.tmp 18) (.tmp 20) rfl rfl ((unhid HO).alloc _) rfl (Row.lit_at _ _ _ _ _ [.int .i64 (i : Int)] rfl rfl rfl) (ints_one .i64 [_]) (by simp [maxLen]; omega) (by omega) (by simp; omega) ?_
      intro A2 c2 w2 o2 g2' l2
      have b2 : Below w1.heap.size w1 w2 := Below.grown ((unhid HB).alloc bs _) g2' (by simp; omega) (fun q hq => ((unhid HO).from_ q hq).1)
      rw [nums_snoc] at o2
      have HO2 := hid o2; have HB2 := hid b2
      clear o2 b2 g2' l2 HO HB
      go_wp2_with (at_builtin; refine halt_at (fun K hK => ?_))
      go_roundw
      case rel => exact ⟨i + 1, A2, c2, by omega, by go_num, rfl, HO2, HB2⟩
      case measure => simp [intOf]; omega
    · have hin : i = n := by omega
      subst hin
      have i2 : ¬ (i : Int) < (i : Int) := by omega
      have hzr : w1.heap.size ≤ wr.heap.size := (unhid HB).size
      obtain ⟨wo, hwo⟩ : ∃ wo : World, wo = wr := ⟨_, rfl⟩
      rw [← hwo] at HO HB hzr
      rw [← hwo]
      clear hwo
      go_wp2_with fail
      go_loopw [7] (fun v7 wr => ∃ (q : Nat) (l : List Nat), q ≤ i ∧ v7 = .int .i64 ((q : Int) - 1) ∧ Hid (l.length = i) ∧ Hid (ordGo d (q - 1) l = orderN d i) ∧ Hid (Own wr w1.heap.size 3 1 A i c (nums l)) ∧ Hid (Kept (fun j => at_ A = some j) wo wr)) (fun v7 _ => (intOf v7 + 1).toNat)
      case atStart => exact ⟨i, List.range i, Nat.le_refl _, rfl, List.length_range, rfl, HO, Kept.refl _ _⟩
      case round =>
        obtain ⟨q, l, hq, rfl, HLEN, HGO, HP, HK2⟩ := hrel
        have hzq : wo.heap.size ≤ wr.heap.size := (unhid HK2).size
        have hAf : Hid (∀ j, at_ A = some j → w1.heap.size ≤ j) := hid fun j hj => ((unhid HO).from_ j hj).1
        by_cases hq2 : 2 ≤ q
        · obtain ⟨m, rfl⟩ : ∃ m, q = m + 1 := ⟨q - 1, by omega⟩
          rw [show (((m + 1 : Nat) : Int) - 1) = (m : Int) by omega]
          obtain ⟨g6, _, rfl, _⟩ := (unhid HP).blk (by omega)
          have m1 : (0 : Int) < (m : Int) := by omega
          have m2 : (m : Int) < 1000 := by omega
          have B3 := hid (((unhid B1).below (unhid HB) hz1).kept (unhid HK2) (fun h => by have := hAf.out _ h; omega))
          have PUT := put_any (m : Int) 4 wr (by omega) (by omega) (by decide) (by decide)
          unfold PutP at PUT
          rw [be4_bytes (by omega)] at PUT
          have PT := hid PUT
          clear PUT
          go_wp2_with fail
          refine (unhid PT).mono ?_
          rintro e w3 ⟨gk, rfl, ok, bk⟩
          have OK3 := hid (Row.of_own ok); have F3 := hid bk
          have hz3 : wr.heap.size ≤ w3.heap.size := bk.size
          have hb3 := (unhid B3).lt'
          have B4 := hid ((unhid B3).below bk hb3)
          have hb4 := (unhid B4).lt'
          have RD : Hid (Row w3 w3.heap.size 1 (some ⟨g2, 0, none⟩) 32 (bytes d)) := by
            have := Row.of_blk (unhid B4)
            rw [up_len, HD.out] at this
            exact this
          clear ok bk PT
          go_wp2_with (at_builtin; refine halt_at (fun K hK => ?_))
          refine go_on hK ?_; clear hK
          refine app_step bytesE rfl (.tmp 33) (.tmp 34) rfl rfl (Own.lit_at w3 w3.heap.size 5 1 1 w3.heap.size _ (bytes [16]) rfl (Nat.le_refl _) (by decide) rfl rfl) rfl ((unhid RD).alloc (Nat.le_refl _) _) (bytes_one _) (by decide) (by decide) (by simp) ?_
          intro A3 c3 w4 o4 g4 l4
          rw [← bytes_append] at o4
          have E4 : Below w3.heap.size w3 w4 := ((Below.refl _ _).alloc (Nat.le_refl _) _).grown g4 (by simp) (fun q hq => by simp [at_] at hq; omega)
          have O4 := hid o4; have F4 := hid ((unhid F3).trans (E4.mono hz3))
          have RK := hid ((unhid OK3).below E4)
          have hz4 : w3.heap.size ≤ w4.heap.size := E4.size
          clear o4 g4 l4 E4 F3 OK3 RD
          go_wp2_with (at_builtin; refine halt_at (fun K hK => ?_))
          refine go_on hK ?_; clear hK
          refine app_step bytesE rfl (.tmp 36) (.tmp 37) rfl rfl (unhid O4) rfl (unhid RK) (bytes_one _) (by decide) (by decide) (by omega) ?_
          intro A5 c5 w5 o5 g5 l5
          rw [← bytes_append, show [16] ++ d ++ be4 m = ordText d m by simp [ordText]] at o5
          have E5 : Below w3.heap.size w4 w5 := ((Below.refl _ _)).grown g5 (by omega) (fun q hq => by have := (unhid O4).from_ q hq; omega)
          have O5 := hid o5; have F5 := hid ((unhid F4).trans (E5.mono hz3))
          have hz5 : wr.heap.size ≤ w5.heap.size := (unhid F5).size
          clear o5 g5 l5 E5 O4 F4 RK
          go_wp2_with fail
          refine (rsum_any (ordText d m) A5 37 c5 _ _ (Row.of_own (unhid O5)) (Nat.le_refl _) (by decide) (ordText_B8 D8.out m)).mono ?_
          rintro e w6 ⟨rfl, hb6⟩
          have F6 := hid ((unhid F5).trans (hb6.mono hz5))
          have hz6 : wr.heap.size ≤ w6.heap.size := (unhid F6).size
          clear hb6 O5 F5
          have hsx : (Sh2.sum (ordText d m)).length = 32 := Sh2.sum_len _
          have hs8 : B8 (Sh2.sum (ordText d m)) := Sh2.sum_lt _
          have hjlt := ordStep_pick_lt d m
          have hstep : ordStep d l m = swapL l m (pickN (Sh2.sum (ordText d m)) (m + 1)) := rfl
          obtain ⟨X, hX⟩ : ∃ X, Sh2.sum (ordText d m) = X := ⟨_, rfl⟩
          rw [hX] at hsx hs8 hjlt hstep
          rw [hX]
          have HSX := hid hsx; have HS8 := hid hs8; have HST := hid hstep
          clear hsx hs8 hstep hX
          go_wp2_with fail
          rw [show ((m : Int) + 1) = ((m + 1 : Nat) : Int) by omega]
          refine (picked_any X (m + 1) _ HSX.out HS8.out (by omega)).mono ?_
          rintro e w7 ⟨rfl, hb7⟩
          have F7 := hid ((unhid F6).trans (hb7.mono hz6))
          clear hb7 F6
          obtain ⟨j, hj⟩ : ∃ j, pickN X (m + 1) = j := ⟨_, rfl⟩
          rw [hj] at hjlt HST
          rw [hj]
          clear hj
          have O7 := hid ((unhid HP).below (unhid F7) (Nat.le_refl _))
          have ci : w7.cell? ⟨g6, m, none⟩ = some (.int .i64 ((l.getD m 0 : Nat) : Int)) := ((unhid O7).get1 (i := m) (by omega)).1.trans (nums_get l (by rw [HLEN.out]; omega))
          have cj : w7.cell? ⟨g6, j, none⟩ = some (.int .i64 ((l.getD j 0 : Nat) : Int)) := ((unhid O7).get1 (i := j) (by omega)).1.trans (nums_get l (by rw [HLEN.out]; omega))
          have fi := ((unhid O7).get1 (i := m) (by omega)).2
          have fj := ((unhid O7).get1 (i := j) (by omega)).2
          obtain ⟨x, hx⟩ : ∃ x, l.getD m 0 = x := ⟨_, rfl⟩
          obtain ⟨y, hy⟩ : ∃ y, l.getD j 0 = y := ⟨_, rfl⟩
          rw [hx] at ci
          rw [hy] at cj
          obtain ⟨v', hv'⟩ := cell?_setCell_some (w := w7) (p := ⟨g6, m, none⟩) (x := .int .i64 (y : Int)) (q := ⟨g6, j, none⟩) (v := .int .i64 (y : Int)) cj
          have HX := hid hx; have HY := hid hy
          have i1 : (0 : Int) ≤ (m : Int) := by omega
          have i2 : (m : Int) < (i : Int) := by omega
          have i3 : (0 : Int) ≤ (j : Int) := by omega
          have i4 : (j : Int) < (i : Int) := by omega
          clear hx hy
          have hset : ((nums l).set m (.int .i64 (y : Int))).set j (.int .i64 (x : Int)) = nums (ordStep d l m) := by
            rw [nums_set, nums_set, HST.out, swapL, HX.out, HY.out]
          have q1 := (unhid O7).set1 (i := m) (by omega) (.int .i64 (y : Int))
          have q2 := q1.2.1.set1 (i := j) (by omega) (.int .i64 (x : Int))
          have P7 : Hid (Own ((w7.setCell ⟨g6, m, none⟩ (.int .i64 (y : Int))).setCell ⟨g6, j, none⟩ (.int .i64 (x : Int))) w1.heap.size 3 1 (some ⟨g6, 0, none⟩) i c (nums (ordStep d l m))) := by
            rw [← hset]; exact q2.2.1
          have Q7 : Hid (Kept (fun j => at_ (some ⟨g6, 0, none⟩) = some j) wo ((w7.setCell ⟨g6, m, none⟩ (.int .i64 (y : Int))).setCell ⟨g6, j, none⟩ (.int .i64 (x : Int)))) := hid ((((unhid HK2).trans (Kept.of_below (S := fun j => at_ (some ⟨g6, 0, none⟩) = some j) (unhid F7) (Nat.le_refl _)) (fun j _ h => h)).trans (Kept.of_grown q1.2.2) (fun j _ h => h)).trans (Kept.of_grown q2.2.2) (fun j _ h => h))
          have LL := hid (show (ordStep d l m).length = i by rw [HST.out, swapL_len]; exact HLEN.out)
          have GG : Hid (ordGo d (m - 1) (ordStep d l m) = orderN d i) := by
            have := HGO.out
            rw [Nat.add_sub_cancel, show m = (m - 1) + 1 by omega] at this
            rw [ordGo, show m - 1 + 1 = m by omega] at this
            exact this
          clear q1 q2 hset
          go_wp2_with fail
          go_roundw
          case rel => exact ⟨m, ordStep d l m, by omega, rfl, LL, GG, P7, Q7⟩
          case measure => simp [intOf]
        · have hl0 : l = orderN d i := by
            have := HGO.out
            rw [show q - 1 = 0 by omega] at this
            exact this
          have hq0 : (q : Int) - 1 ≤ 0 := by omega
          rw [hl0] at HP
          have E8 : Hid (Below w.heap.size w wr) := hid (((unhid E1).trans ((unhid HB).mono (by omega))).trans ((unhid HK2).below (by omega) (fun j hj h => by have := hAf.out _ h; omega)))
          clear hl0 HGO
          go_wp2_with fail
          go_ret
          exact ⟨A, c, rfl, Row.of_own (unhid HP), unhid E8⟩
end Go.Proofs.YtlaoijnlemgdfaaDoor

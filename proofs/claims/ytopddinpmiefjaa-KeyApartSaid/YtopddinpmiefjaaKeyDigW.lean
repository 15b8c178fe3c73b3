/- Walks of key.digits, Digits. -/
import Derived.Test.YtopddinpmiefjaaProg
import Derived.Test.YtopddinpmiefjaaArr
import Derived.Test.YtopddinpmiefjaaKeyMath
namespace Go.Proofs.Ytopddinpmiefjaa
set_option linter.unusedVariables false
open Go.RowKit Go.Mny
theorem digestT : ArrI Try.prog 26 5 32 .u8 := ⟨Try.underlying26, Try.underlying5, by kernel_rfl, by kernel_rfl, by kernel_rfl⟩
theorem placesT : ArrI Try.prog 50 3 67 .i64 := ⟨Try.underlying50, Try.underlying3, by kernel_rfl, by kernel_rfl, by kernel_rfl⟩
theorem intSize : (Try.prog.info? 3).map (·.size) = some 1 := by kernel_rfl
def ByL (l : List Int) : Prop := ∀ z ∈ l, 0 ≤ z ∧ z < 256
set_option maxHeartbeats 1000000 in
set_option maxRecDepth 100000 in
theorem digits_any (m : List Int) (w : World) (hl : m.length = 32) (hm : ByL m) :
    Calls Try.prog 22 #[.agg (cellsOf .u8 m)] w fun e w' => e = .returned (.agg (cellsOf .i64 (Kd.digs m))) ∧ Below w.heap.size w w' := by
  have HL := hid hl; have HM := hid hm; clear hl hm
  go_enter Try.func22, Try.ntmps22
  go_wp2_with (first
    | (with_reducible refine halt_op (some 1) (.box _ _) (fun K hK => ?_)))
  refine go_on hK ?_; clear hK
  refine box_arr (k := .u8) (l := m) rfl (.tmp 0) rfl rfl ?_
  rintro g1 w1 rfl s1 b1 e1
  refine alloc_arr placesT rfl rfl ?_
  rintro g2 w2 hg2 s2 b2 e2
  rw [s1] at hg2; subst hg2
  have BB1 := hid (b1.below e2 (by omega)); have BB2 := hid b2
  have BE := hid (e1.trans (e2.mono (by omega)))
  clear b1 b2 e1 e2
  go_wp2_with (first
    | (with_reducible refine halt_op (some 6) (.load _ _) (fun K hK => ?_)))
  refine go_on hK ?_; clear hK
  refine load_arr digestT (l := m) rfl (.tmp 1) rfl rfl (unhid BB1) HL.out ?_
  go_wp2_with fail
  have B0 := Kd.lack_bd m (fun k => by
    rw [List.getD_eq_getElem?_getD]
    cases e : m[k]? with
    | none => simp
    | some z => exact HM.out z (List.mem_of_getElem? e))
  have HB0 := hid B0; clear B0
  go_loopw [3, 7] (fun v3 v7 wr => ∃ (k : Nat) (cs : List Int), k ≤ 32 ∧ v7 = .int .i64 k ∧ v3 = .int .i64 (Kd.lackTo m k) ∧ Hid (Blk wr (w.heap.size + 1) 50 (cellsOf .i64 cs)) ∧
      Hid (cs.length = 67 ∧ ∀ j, j < 2 * k → cs[j]? = some (Kd.dig m j)) ∧ Hid (Below w.heap.size w wr)) (fun _ v7 _ => 32 - (intOf v7).toNat)
  case atStart => exact ⟨0, _, Nat.zero_le _, rfl, rfl, BB2, ⟨by simp, fun j hj => by omega⟩, BE⟩
  case round =>
    obtain ⟨k, cs, hk, rfl, rfl, HB, HC, HE⟩ := hrel
    have bd := unhid HB0 k
    by_cases hlt : k < 32
    · obtain ⟨b, hb⟩ : ∃ b, m[k]? = some b := ⟨m[k]'(by rw [HL.out]; exact hlt), List.getElem?_eq_getElem _⟩
      have hb2 := HM.out b (List.mem_of_getElem? hb)
      have Hb := hid hb; clear hb
      have i1 : (0 : Int) ≤ 2 * (k : Int) := by omega
      have i2 : 2 * (k : Int) < 67 := by omega
      have i3 : (0 : Int) ≤ 2 * (k : Int) + 1 := by omega
      have i4 : 2 * (k : Int) + 1 < 67 := by omega
      go_wp2_with (first
        | (with_reducible refine halt_op (some 10) (.index _ _ _) (fun K hK => ?_)))
      refine go_on hK ?_; clear hK
      refine index_int digestT (l := m) (j := k) rfl (.tmp 6) (.tmp 7) rfl rfl rfl hlt Hb.out ?_
      go_wp2_with (first
        | (with_reducible refine halt_op none (.store _ (.tmp 22) _) (fun K hK => ?_)))
      refine go_on hK ?_; clear hK
      have HBs := hid (show 2 * k < (cellsOf .i64 cs).size by rw [cellsOf_size, HC.out.1]; omega)
      refine store_cell (k := .i64) intSize rfl (.tmp 22) (.tmp 18) rfl rfl rfl (unhid HB) (unhid HBs) ?_
      intro w3 b3 g3
      rw [cellsOf_set] at b3
      have B3 := hid b3; have G3 := hid g3; clear b3 g3
      go_wp2_with (first
        | (with_reducible refine halt_op none (.store _ (.tmp 23) _) (fun K hK => ?_)))
      refine go_on hK ?_; clear hK
      have HBs2 := hid (show 2 * k + 1 < (cellsOf .i64 (cs.set (2 * k) (b / 16))).size by rw [cellsOf_size, List.length_set, HC.out.1]; omega)
      refine store_cell (k := .i64) intSize rfl (.tmp 23) (.tmp 21) rfl rfl rfl (unhid B3) (unhid HBs2) ?_
      intro w4 b4 g4
      rw [cellsOf_set] at b4
      have B4 := hid b4
      have HE4 := hid (((unhid HE).grown (unhid G3) (unhid HE).size (fun q hq => by injection hq with hq; omega)).grown g4 (by have := (unhid HE).size; have := (unhid G3).size; omega) (fun q hq => by injection hq with hq; omega))
      have cl : cs.length = 67 := HC.out.1
      have c1 : w4.cell? ⟨w.heap.size + 1, 2 * k, none⟩ = some (.int .i64 (b / 16)) := by
        rw [b4.cell, cellsOf_get, List.getElem?_set_ne (by omega), List.getElem?_set_self (by omega)]; rfl
      have c2 : w4.cell? ⟨w.heap.size + 1, 2 * k + 1, none⟩ = some (.int .i64 (b % 16)) := by
        rw [b4.cell, cellsOf_get, List.getElem?_set_self (by rw [List.length_set]; omega)]; rfl
      have HC4 : Hid (((cs.set (2 * k) (b / 16)).set (2 * k + 1) (b % 16)).length = 67 ∧ ∀ j, j < 2 * (k + 1) → ((cs.set (2 * k) (b / 16)).set (2 * k + 1) (b % 16))[j]? = some (Kd.dig m j)) := by
        refine ⟨by simp only [List.length_set]; exact cl, fun j hj => ?_⟩
        have gd : m.getD k 0 = b := by rw [List.getD_eq_getElem?_getD, Hb.out]; rfl
        by_cases j1 : j = 2 * k + 1
        · subst j1; rw [List.getElem?_set_self (by rw [List.length_set]; omega), Kd.dig_odd m k hlt, gd]
        · rw [List.getElem?_set_ne (by omega)]
          by_cases j2 : j = 2 * k
          · subst j2; rw [List.getElem?_set_self (by omega), Kd.dig_even m k hlt, gd]
          · rw [List.getElem?_set_ne (by omega)]; exact HC.out.2 j (by omega)
      have Hlack : Hid (Kd.lackTo m (k + 1) = Kd.lackTo m k + (30 - b / 16 - b % 16)) := by
        have gd : m.getD k 0 = b := by rw [List.getD_eq_getElem?_getD, Hb.out]; rfl
        show Kd.lackTo m k + (30 - m.getD k 0 / 16 - m.getD k 0 % 16) = _
        rw [gd]
      clear b4 g4 HB HC HE B3 G3 HBs HBs2 cl
      go_wp2_with fail
      have q1 : IntKind.i64.wrap (2 * (k : Int)) = 2 * (k : Int) := IntWalk.i64_in _ (by omega)
      have q2 : IntKind.i64.wrap (2 * (k : Int) + 1) = 2 * (k : Int) + 1 := IntWalk.i64_in _ (by omega)
      have q3 : IntKind.i64.wrap (30 - b / 16) = 30 - b / 16 := IntWalk.i64_in _ (by omega)
      have q4 : IntKind.i64.wrap (30 - b / 16 - b % 16) = 30 - b / 16 - b % 16 := IntWalk.i64_in _ (by omega)
      have q5 : IntKind.i64.wrap (Kd.lackTo m k + (30 - b / 16 - b % 16)) = Kd.lackTo m k + (30 - b / 16 - b % 16) := IntWalk.i64_in _ (by omega)
      have q6 : (2 * (k : Int)).toNat = 2 * k := by omega
      have q7 : (2 * (k : Int) + 1).toNat = 2 * k + 1 := by omega
      go_quiet (fail)
      clear q1 q2 q3 q4 q5 q6 q7
      go_wp2
      go_roundw
      case rel => exact ⟨k + 1, _, by omega, by go_num, by rw [Hlack.out], B4, HC4, (unhid HE4).drewN _⟩
      case measure => simp [intOf]; omega
    · have hk32 : k = 32 := by omega
      subst hk32
      go_wp2_with (first
        | (with_reducible refine halt_op none (.store _ (.tmp 45) _) (fun K hK => ?_)))
      refine go_on hK ?_; clear hK
      have HBs := hid (show 64 < (cellsOf .i64 cs).size by rw [cellsOf_size, HC.out.1]; omega)
      refine store_cell (k := .i64) intSize rfl (.tmp 45) (.tmp 39) rfl rfl rfl (unhid HB) (unhid HBs) ?_
      intro w3 b3 g3
      rw [cellsOf_set] at b3
      have B3 := hid b3; have E3 := hid ((unhid HE).grown g3 (unhid HE).size (fun q hq => by injection hq with hq; omega)); clear b3 g3
      go_wp2_with (first
        | (with_reducible refine halt_op none (.store _ (.tmp 46) _) (fun K hK => ?_)))
      refine go_on hK ?_; clear hK
      refine store_cell (k := .i64) intSize rfl (.tmp 46) (.tmp 42) rfl rfl rfl (unhid B3) (by rw [cellsOf_size, List.length_set, HC.out.1]; omega) ?_
      intro w4 b4 g4
      rw [cellsOf_set] at b4
      have B4 := hid b4; have E4 := hid ((unhid E3).grown g4 (unhid E3).size (fun q hq => by injection hq with hq; omega)); clear b4 g4
      go_wp2_with (first
        | (with_reducible refine halt_op none (.store _ (.tmp 47) _) (fun K hK => ?_)))
      refine go_on hK ?_; clear hK
      refine store_cell (k := .i64) intSize rfl (.tmp 47) (.tmp 44) rfl rfl rfl (unhid B4) (by rw [cellsOf_size, List.length_set, List.length_set, HC.out.1]; omega) ?_
      intro w5 b5 g5
      rw [cellsOf_set] at b5
      have lb := unhid HB0 32
      rw [i64_mask4 _ (by omega) (by omega), i64_mask4 _ (by omega) (by omega)] at b5
      have E5 := hid ((unhid E4).grown g5 (unhid E4).size (fun q hq => by injection hq with hq; omega)); clear g5
      have efin : ((cs.set 64 (Kd.lackTo m 32 / 256)).set 65 (Kd.lackTo m 32 / 16 % 16)).set 66 (Kd.lackTo m 32 % 16) = Kd.digs m := by
        have cl : cs.length = 67 := HC.out.1
        refine List.ext_getElem? fun j => ?_
        by_cases hj : j < 67
        · have er : (Kd.digs m)[j]? = some (Kd.dig m j) := by simp [Kd.digs, hj]
          rw [er]
          by_cases j1 : j = 66
          · subst j1; rw [List.getElem?_set_self (by simp only [List.length_set]; omega)]; rfl
          · rw [List.getElem?_set_ne (by omega)]
            by_cases j2 : j = 65
            · subst j2; rw [List.getElem?_set_self (by simp only [List.length_set]; omega)]; rfl
            · rw [List.getElem?_set_ne (by omega)]
              by_cases j3 : j = 64
              · subst j3; rw [List.getElem?_set_self (by omega)]; rfl
              · rw [List.getElem?_set_ne (by omega)]; exact HC.out.2 j (by omega)
        · rw [List.getElem?_eq_none (by simp only [List.length_set]; omega), List.getElem?_eq_none (by simp [Kd.digs]; omega)]
      rw [efin] at b5
      have B5 := hid b5; clear b5 efin
      go_wp2_with (first
        | (with_reducible refine halt_op (some 48) (.load _ _) (fun K hK => ?_)))
      refine go_on hK ?_; clear hK
      have ld : (Kd.digs m).length = 67 := by simp [Kd.digs]
      refine load_arr placesT (l := Kd.digs m) rfl (.tmp 2) rfl rfl (unhid B5) ld ?_
      refine store_arr placesT (l := Kd.digs m) rfl (.tmp 2) (.tmp 48) rfl rfl rfl ld (unhid B5) (by rw [cellsOf_size]; exact ld) ?_
      intro w6 b6 g6
      have B6 := hid b6; have E6 := hid ((unhid E5).grown g6 (unhid E5).size (fun q hq => by injection hq with hq; omega)); clear b6 g6
      go_wp2
      exact bodyPost_ret (results_cell_row rfl _ _ (w.heap.size + 1) _ (cellsOf .i64 (Kd.digs m)) (0, 0) _ rfl (unhid B6) placesT.under rfl (by rw [cellsOf_size, ld]; exact placesT.size)) rfl ⟨rfl, unhid E6⟩
theorem Digits_any (m : List Int) (w : World) (hl : m.length = 32) (hm : ByL m) :
    Calls Try.prog 11 #[.agg (cellsOf .u8 m)] w fun e w' => ∃ g, e = .returned (.slice (some ⟨g, 0, none⟩) 67 67) ∧ w.heap.size ≤ g ∧ Blk w' g 50 (cellsOf .i64 (Kd.digs m)) ∧ Below w.heap.size w w' := by
  have HL := hid hl; have HM := hid hm; clear hl hm
  go_enter Try.func11, Try.ntmps11
  go_wp2_with (first
    | (with_reducible refine halt_op (some 1) (.box _ _) (fun K hK => ?_)))
  refine go_on hK ?_; clear hK
  refine box_arr (k := .u8) (l := m) rfl (.tmp 0) rfl rfl ?_
  rintro g1 w1 rfl s1 b1 e1
  have B1 := hid b1; have E1 := hid e1; clear b1 e1
  go_wp2_with (first
    | (with_reducible refine halt_op (some 4) (.load _ _) (fun K hK => ?_)))
  refine go_on hK ?_; clear hK
  refine load_arr digestT (l := m) rfl (.tmp 1) rfl rfl (unhid B1) HL.out ?_
  go_wp2_with fail
  refine (digits_any m _ HL.out HM.out).mono ?_
  rintro e w2 ⟨rfl, e2⟩
  have E2 := hid ((unhid E1).trans (e2.mono (by omega))); clear e2
  go_wp2_with (first
    | (with_reducible refine halt_op (some 3) (.alloc _) (fun K hK => ?_)))
  refine go_on hK ?_; clear hK
  refine alloc_arr placesT rfl rfl ?_
  rintro g3 w3 hg3 s3 b3 e3
  have ld : (Kd.digs m).length = 67 := by simp [Kd.digs]
  refine store_arr placesT (l := Kd.digs m) rfl (.tmp 3) (.tmp 5) rfl rfl rfl ld b3 (by simp [cellsOf]) ?_
  intro w4 b4 g4
  have hge : w.heap.size ≤ g3 := by rw [hg3]; exact (unhid E2).size
  have E4 := hid (((unhid E2).trans (e3.mono hge)).grown g4 (by omega) (fun q hq => by injection hq with hq; omega))
  have B4 := hid b4; have Hge := hid hge; clear b4 g4 e3 b3 hg3 s3
  go_wp2
  go_ret
  exact ⟨g3, rfl, Hge.out, unhid B4, unhid E4⟩
end Go.Proofs.Ytopddinpmiefjaa

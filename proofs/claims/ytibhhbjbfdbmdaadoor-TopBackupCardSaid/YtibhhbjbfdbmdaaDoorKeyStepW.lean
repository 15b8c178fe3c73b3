/- The walk of key.Step. -/
import Derived.Test.YtibhhbjbfdbmdaaDoorShaOfW
import Derived.Test.YtibhhbjbfdbmdaaDoorBuild
namespace Go.Proofs.YtibhhbjbfdbmdaaDoor
set_option linter.unusedVariables false
open Go.RowKit Go.Mny
theorem digsT : Elt Tryd.prog 72 23 32 32 := Elt.of Tryd.underlying72 (.agg (Array.replicate 32 (.int .u8 0))) (by kernel_rfl) (by simp [Value.cells]) (by decide)
/-- so many steps on -/
def stepN : Nat → List Nat → List Nat
  | 0, d => d
  | n + 1, d => stepN n (Sh2.sum (8 :: d))
theorem stepN_add : ∀ (m n : Nat) (d : List Nat), stepN n (stepN m d) = stepN (m + n) d
  | 0, n, d => by rw [Nat.zero_add]; rfl
  | m + 1, n, d => by rw [Nat.succ_add]; exact stepN_add m n _
theorem stepN_succ (n : Nat) (d : List Nat) : stepN (n + 1) d = Sh2.sum (8 :: stepN n d) := by
  rw [← stepN_add n 1 d]; rfl
theorem stepN_ok (d : List Nat) (hl : d.length = 32) (h8 : B8 d) : ∀ n, (stepN n d).length = 32 ∧ B8 (stepN n d)
  | 0 => ⟨hl, h8⟩
  | n + 1 => by rw [stepN_succ]; exact ⟨Sh2.sum_len _, Sh2.sum_lt _⟩
set_option maxHeartbeats 1000000 in
set_option maxRecDepth 100000 in
theorem step_any (d : List Nat) (n : Nat) (w : World) (hd : d.length = 32) (m8 : B8 d) (hn : n ≤ 4611686018427387904) (hL : Laid w) (h0 : 1 < w.heap.size) :
    Calls Tryd.prog 47 #[.agg (cellsOf .u8 (up d)), .int .i64 n] w fun e w' => e = .returned (.agg (cellsOf .u8 (up (stepN n d)))) ∧ Below w.heap.size w w' := by
  have HL := hid hL; have M8 := hid m8; have HDL := hid hd
  clear hL m8 hd
  go_enter Tryd.func47, Tryd.ntmps47
  go_wp2_with (with_reducible refine halt_op (some 2) (.box _ _) (fun K hK => ?_))
  refine go_on hK ?_; clear hK
  refine box_arr (k := .u8) (l := up d) rfl (.tmp 0) rfl rfl ?_
  rintro gb w1 hgb s1 b1 e1
  refine alloc_arr digT rfl rfl ?_
  rintro gd w2 hgd s2 b2 e2
  have hge : w.heap.size ≤ gb := by omega
  have hgbd : gb < gd := by omega
  have E2 := hid ((e1.mono hge).trans (e2.mono (by omega)))
  have BB := hid (b1.below e2 (by omega))
  have BD := hid b2
  clear e1 b1 e2 b2 hgb hgd s1 s2
  go_wp2_with fail
  go_frame
  go_loopw [1] (fun v1 wr => ∃ j : Nat, j ≤ n ∧ v1 = .int .i64 j ∧ Hid (Blk wr gb 23 (cellsOf .u8 (up (stepN (n - j) d)))) ∧ Hid (Blk wr gd 23 (cellsOf .u8 (List.replicate 32 0))) ∧ Hid (Below w.heap.size w wr)) (fun v1 _ => (intOf v1).toNat)
  case atStart => exact ⟨n, Nat.le_refl _, rfl, by rw [Nat.sub_self]; exact BB, BD, E2⟩
  case round =>
    obtain ⟨j, hj, rfl, HB, HD, HE⟩ := hrel
    obtain ⟨sl, s8⟩ := stepN_ok d HDL.out M8.out (n - j)
    have SL := hid sl; have S8 := hid s8
    clear sl s8
    by_cases hlt : 0 < j
    · have hst := stepN_succ (n - j) d
      have hnj : n - j + 1 = n - (j - 1) := by omega
      rw [hnj] at hst
      have HST := hid hst
      clear hst hnj
      generalize stepN (n - j) d = x at HB SL S8 HST
      go_wp2_with (with_reducible refine halt_op (some 9) (.load _ _) (fun K hK => ?_))
      refine go_on hK ?_; clear hK
      refine load_arr digT (l := up x) rfl (.tmp 2) rfl rfl (unhid HB) (by rw [up_len]; exact SL.out) ?_
      go_wp2_with (with_reducible refine halt_op (some 10) (.buildSlice _ _ _) (fun K hK => ?_))
      refine go_on hK ?_; clear hK
      refine build1 digsT (by decide) rfl (.tmp 9) rfl (cs := bytes x) rfl (by rw [bytes_len]; exact SL.out) ?_
      intro b3
      have hr3 : Row (wr.alloc (.cells (bytes x).toArray 23)) (wr.heap.size + 1) 32 (some ⟨wr.heap.size, 0, none⟩) 1 (bytes [x].flatten) := by
        rw [List.flatten_cons, List.flatten_nil, List.append_nil]
        exact ⟨by rw [bytes_len, SL.out], fun _ => ⟨wr.heap.size, 0, rfl, by omega, fun j _ => by rw [Nat.zero_add, b3.cell, List.getElem?_toArray]⟩⟩
      have HR3 := hid hr3
      have E3 := hid ((unhid HE).alloc (unhid HE).size (.cells (bytes x).toArray 23))
      have B3 := hid ((unhid HB).alloc (.cells (bytes x).toArray 23))
      have D3 := hid ((unhid HD).alloc (.cells (bytes x).toArray 23))
      clear b3 hr3 HB HD HE
      go_wp2_with fail
      refine (of_any 8 [x] _ 1 1 (wr.heap.size + 1) _ (unhid HR3) rfl (fun l hl => by rw [List.mem_singleton.1 hl]; exact SL.out) (by simp) (by omega) (by omega) (by rw [List.flatten_cons, List.flatten_nil, List.append_nil]; exact S8.out) ((unhid HL).below (unhid E3) h0) (Nat.lt_of_lt_of_le h0 (unhid E3).size)).mono ?_
      rintro e w4 ⟨rfl, hb4⟩
      rw [List.flatten_cons, List.flatten_nil, List.append_nil, ← HST.out]
      have hl3 := (unhid B3).lt'
      have hl4 := (unhid D3).lt'
      have B4 := hid ((unhid B3).below hb4 hl3)
      have D4 := hid ((unhid D3).below hb4 hl4)
      have E4 := hid ((unhid E3).trans (hb4.mono (unhid E3).size))
      have sl2 := (stepN_ok d HDL.out M8.out (n - (j - 1))).1
      clear hb4 E3 B3 D3 hl3 hl4 HR3
      go_wp2_with (with_reducible refine halt_op none (.store _ _ _) (fun K hK => ?_))
      refine go_on hK ?_; clear hK
      refine store_arr digT (l := up (stepN (n - (j - 1)) d)) rfl (.tmp 2) (.tmp 11) rfl rfl rfl (by rw [up_len]; exact sl2) (unhid B4) (by rw [cellsOf_size, up_len]; exact SL.out) ?_
      intro w8 b8 g8
      have B8 := hid b8
      have D8 := hid ((unhid D4).grown g8 (by intro h; injection h with h; omega))
      have E8 := hid ((unhid E4).grown g8 (unhid E4).size (fun q hq => by injection hq with hq; omega))
      clear b8 g8 E4 D4 B4 sl2
      go_frame
      go_wp2_with fail
      go_roundw
      case rel => exact ⟨j - 1, by omega, by go_num, B8, D8, E8⟩
      case measure => simp [intOf]; omega
    · have hj0 : j = 0 := by omega
      subst hj0
      rw [Nat.sub_zero] at HB SL
      go_wp2_with (with_reducible refine halt_op (some 12) (.load _ _) (fun K hK => ?_))
      refine go_on hK ?_; clear hK
      refine load_arr digT (l := up (stepN n d)) rfl (.tmp 2) rfl rfl (unhid HB) (by rw [up_len]; exact SL.out) ?_
      refine store_arr digT (l := up (stepN n d)) rfl (.tmp 4) (.tmp 12) rfl rfl rfl (by rw [up_len]; exact SL.out) (unhid HD) (by simp [cellsOf]) ?_
      intro w8 b8 g8
      have B8' := hid b8; have E8 := hid ((unhid HE).grown g8 (unhid HE).size (fun q hq => by injection hq with hq; omega)); clear b8 g8
      go_wp2
      exact bodyPost_ret (results_cell_row rfl _ _ gd _ (cellsOf .u8 (up (stepN n d))) (0, 0) _ rfl (unhid B8') digT.under rfl (by rw [cellsOf_size, up_len, SL.out]; exact digT.size)) rfl ⟨rfl, unhid E8⟩
end Go.Proofs.YtibhhbjbfdbmdaaDoor

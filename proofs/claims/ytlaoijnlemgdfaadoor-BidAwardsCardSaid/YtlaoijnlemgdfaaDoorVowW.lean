/- The walks of vow.Seal, vow.Open and of the reference's VowText. -/
import Derived.Test.YtlaoijnlemgdfaaDoorConcatW
import Derived.Test.YtlaoijnlemgdfaaDoorShaOfW
import Derived.Deep.RegionHeld3
namespace Go.Proofs.YtlaoijnlemgdfaaDoor
set_option linter.unusedVariables false
open Go.RowKit Go.Mny
theorem noGuardD : Tryd.prog.eqGuardType Tryd.prog.depth 23 = false := by kernel_rfl
def vowText (salt b : List Nat) : List Nat := 15 :: (salt ++ b)
theorem vowText_B8 {salt b : List Nat} (h : B8 salt) (k : B8 b) : B8 (vowText salt b) := by
  intro x hx
  rcases List.mem_cons.1 hx with rfl | hx
  · decide
  · exact (h.append k) x hx
theorem vowText_len (salt b : List Nat) : (vowText salt b).length = salt.length + b.length + 1 := by simp [vowText]
def vowN (salt b : List Nat) : List Nat := Sh2.sum (vowText salt b)
theorem parts3 {w1 : World} {g2 t D n c : Nat} {A : Option Addr} {salt b : List Nat} (hg : Blk w1 g2 t (cellsOf .u8 (up salt))) (hl : salt.length = 32) (hr : Row w1 D 1 A n (bytes b)) (hD : D ≤ w1.heap.size) (e f : Nat) :
    Parts ((w1.alloc (.cells #[.int .u8 15] e)).alloc (.cells #[.slice (some ⟨w1.heap.size, 0, none⟩) 1 1, .slice (some ⟨g2, 0, none⟩) 32 32, .slice A n c] f)) (w1.heap.size + 1 + 1) (some ⟨w1.heap.size + 1, 0, none⟩) [⟨some ⟨w1.heap.size, 0, none⟩, 1, 1, [15]⟩, ⟨some ⟨g2, 0, none⟩, 32, 32, salt⟩, ⟨A, n, c, b⟩] := by
  have hs : (w1.alloc (.cells #[.int .u8 15] e)).heap.size = w1.heap.size + 1 := by simp
  refine ⟨?_, ?_⟩
  · have := Row.lit_at (w1.alloc (.cells #[.int .u8 15] e)) f #[.slice (some ⟨w1.heap.size, 0, none⟩) 1 1, .slice (some ⟨g2, 0, none⟩) 32 32, .slice A n c] 3 (w1.heap.size + 1) _ hs.symm rfl rfl
    rw [hs] at this
    exact this
  · intro p hp
    simp only [List.mem_cons, List.not_mem_nil, or_false] at hp
    rcases hp with rfl | rfl | rfl
    · exact ((Row.lit w1 e #[.int .u8 15] 1 (bytes [15]) rfl rfl).alloc (by rw [hs]; exact Nat.le_refl _) _).more (by omega)
    · have h1 := Row.of_blk hg
      rw [up_len, hl] at h1
      exact ((h1.alloc (Nat.le_refl _) _).alloc (by rw [hs]; omega) _).more (by omega)
    · exact ((hr.alloc hD _).alloc (by rw [hs]; omega) _).more (by omega)
set_option maxHeartbeats 1000000 in
set_option maxRecDepth 100000 in
theorem seal_any (salt b : List Nat) (A : Option Addr) (n c D : Nat) (w : World) (hs : salt.length = 32) (s8 : B8 salt) (hr : Row w D 1 A n (bytes b)) (hD : D ≤ w.heap.size) (hn : n ≤ 140737488354000) (b8 : B8 b) (hL : Laid w) (h0 : 1 < w.heap.size) :
    Calls Tryd.prog 13 #[.agg (cellsOf .u8 (up salt)), .slice A n c] w fun e w' => e = .returned (.agg (cellsOf .u8 (up (vowN salt b)))) ∧ Below w.heap.size w w' := by
  have hbl : b.length = n := by have := hr.len; rw [bytes_len] at this; omega
  have HR := hid hr; have HL := hid hL; have S8 := hid s8; have B8' := hid b8; have HS := hid hs; have HBL := hid hbl
  clear hr hL s8 b8 hs hbl
  go_enter Tryd.func13, Tryd.ntmps13
  go_wp2_with (with_reducible refine halt_op (some 2) (.box _ _) (fun K hK => ?_))
  refine go_on hK ?_; clear hK
  refine box_arr (k := .u8) (l := up salt) rfl (.tmp 0) rfl rfl ?_
  rintro g2 w1 hg2 s1 b1 e1
  go_wp2_with (with_reducible refine halt_op (some 4) (.alloc _) (fun K hK => ?_))
  refine go_on hK ?_; clear hK
  refine alloc_arr digT rfl rfl ?_
  rintro g4 w2 hg4 s2 b2 e2
  have h24 : g2 < g4 := by omega
  have hw2 : w.heap.size ≤ g2 := by omega
  have B1 := hid (b1.below e2 h24); have B2 := hid b2
  have E2 := hid ((e1.trans (e2.mono (by omega))).mono hw2)
  have R2 := hid ((unhid HR).below ((unhid E2).mono hD))
  have hd2 : D ≤ w2.heap.size := by omega
  have P := hid (parts3 (c := c) (unhid B1) HS.out (unhid R2) hd2 5 24)
  have PL : Hid ((catN [⟨some ⟨w2.heap.size, 0, none⟩, 1, 1, [15]⟩, ⟨some ⟨g2, 0, none⟩, 32, 32, salt⟩, ⟨A, n, c, b⟩]).length = n + 33) := by
    show _ = _
    simp [catN, HS.out, HBL.out]; omega
  have PT : Hid (catN [⟨some ⟨w2.heap.size, 0, none⟩, 1, 1, [15]⟩, ⟨some ⟨g2, 0, none⟩, 32, 32, salt⟩, ⟨A, n, c, b⟩] = vowText salt b) := by
    show _ = _
    simp [catN, vowText]
  have S2 := hid s2
  clear b1 b2 e1 e2 hg2 hg4 s1 R2 s2
  go_wp2_with fail
  refine (concat_any _ _ 3 3 (n + 33) _ _ (unhid P) rfl PL.out (by simp) (by omega) (by decide)).mono ?_
  rintro e w3 ⟨A3, c3, rfl, o3, e3⟩
  rw [PT.out] at o3
  have s2 := S2.out
  have O3 := hid o3
  have E23 : Below w2.heap.size w2 w3 := (((Below.refl _ _).alloc (Nat.le_refl _) _).alloc (by simp) _).trans (e3.mono (by simp; omega))
  have B3 := hid ((unhid B2).below E23 (unhid B2).lt')
  have E3 := hid ((unhid E2).trans (E23.mono (by omega)))
  have hs3 : w.heap.size < w3.heap.size := by have := E23.size; omega
  clear o3 e3 E23 P PL PT B1 B2 E2 s2 S2
  go_wp2_with fail
  refine (sum_any (vowText salt b) A3 (n + 33) c3 _ _ (Row.of_own (unhid O3)) (Nat.le_refl _) (by omega) (vowText_B8 S8.out B8'.out) ((unhid HL).below (unhid E3) h0) (by omega)).mono ?_
  rintro e w4 ⟨rfl, hb4⟩
  have hl3 := (unhid B3).lt'
  have B4 := hid ((unhid B3).below hb4 hl3)
  have E4 := hid ((unhid E3).trans (hb4.mono (by omega)))
  clear hb4 E3 B3 O3
  go_wp2_with (with_reducible refine halt_op none (.store _ _ _) (fun K hK => ?_))
  refine go_on hK ?_; clear hK
  refine store_arr digT (l := up (Sh2.sum (vowText salt b))) rfl (.tmp 4) (.tmp 10) rfl rfl rfl (sum_len_u _) (unhid B4) (by simp [cellsOf]) ?_
  intro w8 b8 g8
  have B8'' := hid b8; have E8 := hid ((unhid E4).grown g8 (unhid E4).size (fun q hq => by injection hq with hq; omega)); clear b8 g8
  go_wp2
  exact bodyPost_ret (results_cell_row rfl _ _ g4 _ (cellsOf .u8 (up (Sh2.sum (vowText salt b)))) (0, 0) _ rfl (unhid B8'') digT.under rfl (by rw [cellsOf_size, sum_len_u]; exact digT.size)) rfl ⟨rfl, unhid E8⟩
set_option maxHeartbeats 1000000 in
set_option maxRecDepth 100000 in
theorem open_any' (v salt b : List Nat) (A : Option Addr) (n c D : Nat) (w : World) (hv : v.length = 32) (hs : salt.length = 32) (s8 : B8 salt) (hr : Row w D 1 A n (bytes b)) (hD : D ≤ w.heap.size) (hn : n ≤ 140737488354000) (b8 : B8 b) (hL : Laid w) (h0 : 1 < w.heap.size) :
    Calls Tryd.prog 14 #[.agg (cellsOf .u8 (up v)), .agg (cellsOf .u8 (up salt)), .slice A n c] w fun e w' => e = .returned (.bool (decide (up v = up (vowN salt b)))) ∧ Below w.heap.size w w' := by
  have HR := hid hr; have HL := hid hL; have S8 := hid s8; have B8' := hid b8
  have VL := hid (show (up v).length = 32 by rw [up_len]; exact hv)
  have SL := hid (show (up salt).length = 32 by rw [up_len]; exact hs)
  have HS := hid hs
  have XL := hid (show (up (vowN salt b)).length = 32 from sum_len_u _)
  clear hr hL s8 b8 hs hv
  go_enter Tryd.func14, Tryd.ntmps14
  go_wp2_with (with_reducible refine halt_op (some 3) (.box _ _) (fun K hK => ?_))
  refine go_on hK ?_; clear hK
  refine box_arr (k := .u8) (l := up v) rfl (.tmp 0) rfl rfl ?_
  rintro g3 w1 hg3 s1 b1 e1
  go_wp2_with (with_reducible refine halt_op (some 4) (.box _ _) (fun K hK => ?_))
  refine go_on hK ?_; clear hK
  refine box_arr (k := .u8) (l := up salt) rfl (.tmp 1) rfl rfl ?_
  rintro g4 w2 hg4 s2 b2 e2
  have B1 := hid (b1.below e2 (by omega)); have B2 := hid b2
  have E2 := hid ((e1.trans (e2.mono (by omega))).mono (show w.heap.size ≤ g3 by omega))
  have LV : Hid (∀ w', Below w2.heap.size w2 w' → w'.rangeAt g3 0 ((up v).map (Value.int .u8))) := fun w' hb => ((unhid B1).below hb (unhid B1).lt').range
  have LS : Hid (∀ w', Below w2.heap.size w2 w' → w'.rangeAt g4 0 ((up salt).map (Value.int .u8))) := fun w' hb => ((unhid B2).below hb (unhid B2).lt').range
  have C1 : Hid (∀ w', Below w2.heap.size w2 w' → Calls Tryd.prog 13 #[.agg (cellsOf .u8 (up salt)), .slice A n c] w' fun e w'' => e = .returned (.agg (cellsOf .u8 (up (vowN salt b)))) ∧ Below w2.heap.size w2 w'') := fun w' hb => by
    have hz := (unhid E2).size
    have hz' := hb.size
    have e := (unhid E2).trans (hb.mono hz)
    exact (seal_any salt b A n c D w' HS.out S8.out ((unhid HR).below (e.mono hD)) (by omega) hn B8'.out ((unhid HL).below e h0) (by omega)).mono fun e w'' ⟨h1, h2⟩ => ⟨h1, hb.trans (h2.mono hz')⟩
  clear b1 b2 e1 e2 hg3 hg4 s1 s2 B1 B2
  go_wp2_with fail
  refine wp_region_held_drew (S := fun w' => Below w2.heap.size w2 w') (by kernel_rfl) (Below.refl _ _).drew (fun hS => ?_)
  refine wpAnyH_take (i := 0) (oi := { dst := some 7, op := Op.load 23 (Operand.tmp 3), type := 23, pos := "vow.go:17", after := #[], guard := none }) (v := (.agg (cellsOf .u8 (up v)))) rfl (by kernel_rfl) (by kernel_rfl) (by kernel_rfl) (fun _ _ _ h => h) (yields_load digT rfl (.tmp 3) rfl rfl VL.out (fun w h => LV.out w h)) hS ?_
  try simp only [Act.put, List.setIfInBounds_toArray, List.set_cons_zero, List.set_cons_succ]
  refine wpAnyH_take (i := 1) (oi := { dst := some 8, op := Op.load 23 (Operand.tmp 4), type := 23, pos := "vow.go:17", after := #[], guard := none }) (v := (.agg (cellsOf .u8 (up salt)))) rfl (by kernel_rfl) (by kernel_rfl) (by kernel_rfl) (fun _ _ _ h => h) (yields_load digT rfl (.tmp 4) rfl rfl SL.out (fun w h => LS.out w h)) hS ?_
  try simp only [Act.put, List.setIfInBounds_toArray, List.set_cons_zero, List.set_cons_succ]
  refine wpAnyH_take (i := 2) (oi := { dst := some 9, op := Op.move (Operand.tmp 2), type := 24, pos := "vow.go:17", after := #[], guard := none }) (v := (.slice A n c)) rfl (by kernel_rfl) (by kernel_rfl) (by kernel_rfl) (fun _ _ _ h => h) (yields_of rfl (fun w => by go_simp)) hS ?_
  try simp only [Act.put, List.setIfInBounds_toArray, List.set_cons_zero, List.set_cons_succ]
  refine wpAnyH_ready (rs := [3]) (by kernel_rfl) (by simp) ?_
  refine AllReadyH.cons (o := { dst := some 10, op := Op.call { callee := Callee.value (Operand.func 13), args := #[Operand.tmp 8, Operand.tmp 9], argTypes := #[23, 24] }, type := 23, pos := "vow.go:17", after := #[{ on := 1, ground := Ground.data }, { on := 2, ground := Ground.data }], guard := none }) rfl (fun K hK => ?_) AllReadyH.nil
  go_simp
  refine (unhid C1 _ hS).mono ?_
  rintro e wq1 ⟨rfl, hb1⟩
  go_wp2_with fail
  refine hK.out _ _ hb1 (fun hS1 => ?_)
  try simp only [Act.put, List.setIfInBounds_toArray, List.set_cons_zero, List.set_cons_succ]
  refine wpAnyH_take (i := 4) (oi := { dst := some 11, op := Op.binOp BinOp.eql 23 (Operand.tmp 7) (Operand.tmp 10) 23, type := 4, pos := "vow.go:17", after := #[{ on := 0, ground := Ground.data }, { on := 3, ground := Ground.data }], guard := none }) (v := (.bool (decide (up v = up (vowN salt b))))) rfl (by kernel_rfl) (by kernel_rfl) (by kernel_rfl) (fun _ _ _ h => h) (yields_eql digT noGuardD rfl (.tmp 7) (.tmp 10) 23 rfl rfl rfl VL.out XL.out rfl) hS1 ?_
  try simp only [Act.put, List.setIfInBounds_toArray, List.set_cons_zero, List.set_cons_succ]
  refine wpAnyH_ready (rs := [5]) (by kernel_rfl) (by simp) ?_
  refine AllReadyH.cons (o := { dst := some 6, op := Op.assign (Operand.tmp 11), type := 4, pos := "vow.go:17", after := #[{ on := 4, ground := Ground.data }, { on := 3, ground := Ground.chain }, { on := 0, ground := Ground.phase }, { on := 1, ground := Ground.phase }, { on := 2, ground := Ground.phase }, { on := 3, ground := Ground.phase }, { on := 4, ground := Ground.phase }], guard := none }) rfl (fun K hK => ?_) AllReadyH.nil
  go_simp
  refine hK.out _ _ hS1 (fun hS2 => ?_)
  refine wpAnyH_done (by kernel_rfl) ?_ _
  go_wp2_with fail
  go_ret
  exact ⟨rfl, (unhid E2).trans (hb1.mono (unhid E2).size)⟩
end Go.Proofs.YtlaoijnlemgdfaaDoor

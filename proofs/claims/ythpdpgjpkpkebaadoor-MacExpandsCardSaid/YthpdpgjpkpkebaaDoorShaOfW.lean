/- Walks of sha.Sum, sha.Of and of what the laws know of them. -/
import Derived.Test.YthpdpgjpkpkebaaDoorShaEndW
import Derived.Lib.SlBytesConst
namespace Go.Proofs.YthpdpgjpkpkebaaDoor
set_option linter.unusedVariables false
open Go.RowKit Go.Mny
theorem Row.lit_fr (w : World) (e : Nat) (fr : Nat × Nat) (cur : Array Value) (n : Nat) (cs : List Value) (h : cur.toList = cs) (hn : cs.length = n) : Row (w.alloc (.cells cur e fr)) (w.heap.size + 1) 1 (some ⟨w.heap.size, 0, none⟩) n cs := by
  subst h
  refine ⟨by omega, fun _ => ⟨w.heap.size, 0, rfl, by omega, fun j _ => ?_⟩⟩
  rw [Nat.zero_add, cell_of_row _ _ j cur e fr (heap_alloc_new w _)]; simp
theorem B8.nil : B8 [] := fun x hx => by cases hx
set_option maxHeartbeats 1000000 in
set_option maxRecDepth 100000 in
theorem sum_any (b : List Nat) (A : Option Addr) (n c D : Nat) (w : World) (hr : Row w D 1 A n (bytes b)) (hD : D ≤ w.heap.size) (hn : n ≤ 140737488355000) (m8 : B8 b) (hL : Laid w) (h0 : 0 < w.heap.size) :
    Calls Tryd.prog 10 #[.slice A n c] w fun e w' => e = .returned (.agg (cellsOf .u8 (up (Sh2.sum b)))) ∧ Below w.heap.size w w' := by
  have hbl : b.length = n := by have := hr.len; rw [bytes_len] at this; omega
  have HR := hid hr; have HL := hid hL; have M8 := hid m8; have HBL := hid hbl
  clear hr hL m8 hbl
  go_enter Tryd.func10, Tryd.ntmps10
  go_wp2_with (with_reducible refine halt_op (some 2) (.alloc _) (fun K hK => ?_))
  refine go_on hK ?_; clear hK
  refine alloc_arr digT rfl rfl ?_
  rintro gd w1 hgd s1 b1 e1
  have hge : w.heap.size ≤ gd := by omega
  have E1 := hid (e1.mono hge); have B1 := hid b1
  clear hgd e1 b1
  go_wp2_with fail
  refine (new_any _).mono ?_
  rintro e w2 ⟨gh, rfl, h1, h2, hb, hbel⟩
  have hgh : gd < gh := by omega
  have E2 := hid ((unhid E1).trans (hbel.mono (by omega)))
  have B2 := hid ((unhid B1).below hbel (by omega))
  have H2 := hid (Hsh.new hb)
  have L2 := hid ((unhid HL).below (unhid E2) h0)
  clear hb hbel E1 B1
  go_wp2_with fail
  refine (write_any gh [] b none A 0 n c D _ (unhid H2) ((unhid HR).below ((unhid E2).mono hD)) (by omega) (fun q hq hd => by omega) (by simp; omega) (by simpa using M8.out) (unhid L2) (by omega)).mono ?_
  rintro e w3 ⟨rfl, A3, c3, H3, K3, _⟩
  rw [List.nil_append] at H3
  have E3' : Below w.heap.size w2 w3 := K3.below (by have := (unhid E2).size; omega) (fun j hj h => h.elim (fun h => by omega) (fun h => by cases h))
  have E3 := hid ((unhid E2).trans E3')
  have B3 := hid ((unhid B2).kept K3 (fun h => h.elim (fun h => by omega) (fun h => by cases h)))
  have HH3 := hid H3
  have L3 := hid ((unhid HL).below (unhid E3) h0)
  clear H3 K3 E3' E2 B2 L2 H2
  go_wp2_with fail
  refine (hsum_any gh b A3 c3 _ (unhid HH3) (by rw [HBL.out]; exact hn) M8.out (unhid L3) (by omega)).mono ?_
  rintro e w4 ⟨rfl, hb4⟩
  have hl3 := (unhid B3).lt'
  have B4 := hid ((unhid B3).below hb4 hl3)
  have E4 := hid ((unhid E3).trans (hb4.mono (by have := (unhid E3).size; omega)))
  clear hb4 E3 B3 HH3
  go_wp2_with (with_reducible refine halt_op none (.store _ _ _) (fun K hK => ?_))
  refine go_on hK ?_; clear hK
  refine store_arr digT (l := up (Sh2.sum b)) rfl (.tmp 2) (.tmp 9) rfl rfl rfl (sum_len_u b) (unhid B4) (by simp [cellsOf]) ?_
  intro w8 b8 g8
  have B8' := hid b8; have E8 := hid ((unhid E4).grown g8 (unhid E4).size (fun q hq => by injection hq with hq; omega)); clear b8 g8
  go_wp2
  exact bodyPost_ret (results_cell_row rfl _ _ gd _ (cellsOf .u8 (up (Sh2.sum b))) (0, 0) _ rfl (unhid B8') digT.under rfl (by rw [cellsOf_size, sum_len_u]; exact digT.size)) rfl ⟨rfl, unhid E8⟩
set_option maxHeartbeats 1000000 in
set_option maxRecDepth 100000 in
theorem known_any (w : World) (hL : Laid w) (h0 : 0 < w.heap.size) :
    Calls Tryd.prog 9 #[] w fun e w' => e = .returned (.bool true) ∧ Below w.heap.size w w' := by
  have HL := hid hL
  have kc := fun (w : World) (C : Array Value) (n c : Nat) => Lib.run_convert_bytes_const (P := Tryd.prog) w 22 5 C n c Tryd.underlying22 Tryd.underlying5
  clear hL
  go_enter Tryd.func9, Tryd.ntmps9
  go_wp2_with fail
  refine (sum_any [97, 98, 99] _ 3 3 (w.heap.size + 1) (w.alloc (.cells #[.int .u8 97, .int .u8 98, .int .u8 99] 5 (3, 4))) (Row.lit_fr w 5 (3, 4) #[.int .u8 97, .int .u8 98, .int .u8 99] 3 (bytes [97, 98, 99]) rfl rfl) (by simp) (by omega) (by unfold B8; decide) ((unhid HL).below ((Below.refl _ _).alloc (Nat.le_refl _) _) h0) (by simp)).mono ?_
  rintro e w2 ⟨rfl, hb⟩
  have E2 := hid (((Below.refl _ _).alloc (Nat.le_refl _) _).trans (hb.mono (by simp)))
  rw [Sh2.abc]
  clear hb
  have c0 : w2.heap.size = w2.heap.size := rfl
  go_wp2_with (with_reducible refine halt_op (some 1) (.alloc _) (fun K hK => ?_))
  refine go_on hK ?_; clear hK
  refine alloc_arr digT rfl rfl ?_
  rintro gd w3 hgd s3 b3 e3
  have hge : w.heap.size ≤ gd := by have := (unhid E2).size; omega
  refine store_arr digT rfl (.tmp 1) (.tmp 4) rfl rfl rfl rfl b3 (by simp [cellsOf]) ?_
  intro w4 b4 g4
  have E4 := hid ((unhid E2).trans (Below.grown (e3.mono hge) g4 (by omega) (fun q hq => by injection hq with hq; omega)))
  have k0 : w4.cell? ⟨gd, 0, none⟩ = some (.int .u8 186) := by rw [b4.cell]; rfl
  have k1 : w4.cell? ⟨gd, 1, none⟩ = some (.int .u8 120) := by rw [b4.cell]; rfl
  have k2 : w4.cell? ⟨gd, 31, none⟩ = some (.int .u8 173) := by rw [b4.cell]; rfl
  clear b3 e3 b4 g4 hgd
  go_wp2_with fail
  go_ret
  exact ⟨rfl, unhid E4⟩
set_option maxHeartbeats 1000000 in
set_option maxRecDepth 100000 in
theorem of_any (t : Nat) (L : List (List Nat)) (A : Option Addr) (n c D : Nat) (w : World) (hr : Row w D 32 A n (bytes L.flatten)) (hl : L.length = n) (h32 : ∀ l ∈ L, l.length = 32) (hD : D ≤ w.heap.size) (hn : n ≤ 4398046511000) (ht : t < 256) (m8 : B8 L.flatten) (hL : Laid w) (h0 : 0 < w.heap.size) :
    Calls Tryd.prog 28 #[.int .u8 (t : Nat), .slice A n c] w fun e w' => e = .returned (.agg (cellsOf .u8 (up (Sh2.sum (t :: L.flatten))))) ∧ Below w.heap.size w w' := by
  have HR := hid hr; have HL := hid hL; have M8 := hid m8; have HLL := hid hl; have H32 := hid h32
  clear hr hL m8 hl h32
  go_enter Tryd.func28, Tryd.ntmps28
  go_wp2_with (with_reducible refine halt_op (some 4) (.alloc _) (fun K hK => ?_))
  refine go_on hK ?_; clear hK
  refine alloc_arr digT rfl rfl ?_
  rintro gd w1 hgd s1 b1 e1
  have hge : w.heap.size ≤ gd := by omega
  have E1 := hid (e1.mono hge); have B1 := hid b1
  clear hgd e1 b1
  go_wp2_with fail
  go_loopw [12, 5] (fun v12 v5 wr => ∃ (i : Nat) (A1 : Option Addr) (c1 : Nat), i ≤ n ∧ v12 = .int .i64 i ∧ v5 = .slice A1 (1 + 32 * i) c1 ∧ Hid (Own wr (gd + 1) 5 1 A1 (1 + 32 * i) c1 (bytes (t :: (L.take i).flatten))) ∧ Hid (Below w.heap.size w wr) ∧ Hid (Blk wr gd 25 (cellsOf .u8 (List.replicate 32 0)))) (fun v12 _ _ => n - (intOf v12).toNat)
  case atStart => exact ⟨0, _, 1, Nat.zero_le _, rfl, rfl, Own.lit_at _ _ _ 1 1 _ _ _ s1.symm (by omega) (by decide) rfl rfl, (unhid E1).alloc (unhid E1).size _, (unhid B1).alloc _⟩
  case round =>
    obtain ⟨i, A1, c1, hi, rfl, rfl, HO, HE, HB⟩ := hrel
    have hsB := (unhid HB).lt'
    by_cases hlt : i < n
    · obtain ⟨g, o, rfl, hg, hrg⟩ := Row.elem ((unhid HR).below ((unhid HE).mono hD)) hlt
      obtain ⟨d, hd⟩ : ∃ d, L[i]? = some d := ⟨_, List.getElem?_eq_getElem (by rw [HLL.out]; exact hlt)⟩
      have hdl : d.length = 32 := H32.out d (List.mem_of_getElem? hd)
      have ef : ((bytes L.flatten).drop (i * 32)).take 32 = bytes d := by
        rw [← bytes_drop, ← bytes_take, flat_at H32.out hd]
      have hrg' : Hid (wr.rangeAt g (o + i * 32) ((up d).map (Value.int .u8))) := by rw [ef] at hrg; exact hrg
      have HD := hid hd; have HDL := hid hdl
      clear hrg ef hd hdl
      go_wp2_with (with_reducible refine halt_op (some 15) (.load _ _) (fun K hK => ?_))
      refine go_on hK ?_; clear hK
      refine load_ints digT (l := up d) rfl (.tmp 14) rfl rfl (unhid hrg') (by rw [up_len]; exact HDL.out) ?_
      refine alloc_arr digT rfl rfl ?_
      rintro g7 w7 hg7 s7 b7 e7
      refine store_arr digT (l := up d) rfl (.tmp 7) (.tmp 15) rfl rfl rfl (by rw [up_len]; exact HDL.out) b7 (by simp [cellsOf]) ?_
      intro w8 b8 g8
      have e8 : Below g7 wr w8 := Below.grown (by rw [hg7]; rw [hg7] at e7; exact e7) g8 (by omega) (fun q hq => by injection hq with hq; omega)
      have G8 : Below wr.heap.size wr w8 := e8.mono (by omega)
      have B8 := hid ((unhid HB).below G8 hsB)
      have E8 := hid ((unhid HE).trans (G8.mono (by have := (unhid HE).size; omega)))
      have O8 := hid ((unhid HO).below G8 (Nat.le_refl _))
      have D8 := hid b8
      have s8 : wr.heap.size ≤ w8.heap.size := G8.size
      have R8 := hid (Row.mk (D := w8.heap.size) (s := 1) (A := some ⟨g7, 0, none⟩) (n := 32) (cs := bytes d) (w := w8) (by rw [bytes_len, HDL.out]) (fun _ => ⟨g7, 0, rfl, b8.lt', fun j hj => by rw [Nat.zero_add, b8.cell, cellsOf, List.getElem?_toArray]⟩))
      clear b7 b8 e7 e8 g8 hg7 s7 G8 HB HE HO
      go_wp2_with (at_builtin; refine halt_at (fun K hK => ?_))
      refine go_on hK ?_; clear hK
      refine app_step bytesE rfl (.tmp 16) (.tmp 17) rfl rfl (unhid O8) rfl (unhid R8) (bytes_one d) (by simp [maxLen]; omega) (by omega) (by omega) ?_
      intro A9 c9 w9 o9 g9 l9
      have eo : bytes (t :: (L.take i).flatten) ++ bytes d = bytes (t :: (L.take (i + 1)).flatten) := by
        rw [← bytes_append, List.take_add_one, HD.out]; simp
      rw [eo, show 1 + 32 * i + 32 = 1 + 32 * (i + 1) by omega] at o9
      have G9 : Below (gd + 1) w8 w9 := Below.grown (Below.refl _ _) g9 (by omega) (fun q hq => ((unhid O8).from_ q hq).1)
      have B9 := hid ((unhid B8).below G9 (by omega))
      have E9 := hid ((unhid E8).trans (G9.mono (by omega)))
      have O9 := hid o9
      clear o9 g9 l9 G9 eo
      rw [show 1 + 32 * i + 32 = 1 + 32 * (i + 1) by omega]
      go_wp2_with fail
      go_roundw
      case rel => exact ⟨i + 1, A9, c9, by omega, by go_num, rfl, O9, E9, B9⟩
      case measure => simp [intOf]; omega
    · have hin : i = n := by omega
      subst hin
      have el : L.take i = L := List.take_of_length_le (by rw [HLL.out]; exact Nat.le_refl _)
      rw [el] at HO
      clear el
      go_wp2_with fail
      refine (sum_any (t :: L.flatten) A1 (1 + 32 * i) c1 _ _ (Row.of_own (unhid HO)) (Nat.le_refl _) (by omega) (fun x hx => ?_) ((unhid HL).below (unhid HE) h0) (by omega)).mono ?_
      · rcases List.mem_cons.1 hx with rfl | hx
        · exact ht
        · exact M8.out x hx
      rintro e w4 ⟨rfl, hb4⟩
      have B4 := hid ((unhid HB).below hb4 hsB)
      have E4 := hid ((unhid HE).trans (hb4.mono (unhid HE).size))
      clear hb4 HE HB HO
      go_wp2_with (with_reducible refine halt_op none (.store _ _ _) (fun K hK => ?_))
      refine go_on hK ?_; clear hK
      refine store_arr digT (l := up (Sh2.sum (t :: L.flatten))) rfl (.tmp 4) (.tmp 21) rfl rfl rfl (sum_len_u _) (unhid B4) (by simp [cellsOf]) ?_
      intro w8 b8 g8
      have B8' := hid b8; have E8 := hid ((unhid E4).grown g8 (unhid E4).size (fun q hq => by injection hq with hq; omega)); clear b8 g8
      go_wp2
      exact bodyPost_ret (results_cell_row rfl _ _ gd _ (cellsOf .u8 (up (Sh2.sum (t :: L.flatten)))) (0, 0) _ rfl (unhid B8') digT.under rfl (by rw [cellsOf_size, sum_len_u]; exact digT.size)) rfl ⟨rfl, unhid E8⟩
end Go.Proofs.YthpdpgjpkpkebaaDoor

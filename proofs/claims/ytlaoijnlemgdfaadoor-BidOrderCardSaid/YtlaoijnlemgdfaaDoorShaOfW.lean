/- Walks of sha.Sum, sha.Of and of what the laws know of them. -/
import Derived.Test.YtlaoijnlemgdfaaDoorShaEndW
import Derived.Lib.SlBytesConst
namespace Go.Proofs.YtlaoijnlemgdfaaDoor
set_option linter.unusedVariables false
open Go.RowKit Go.Mny
theorem Row.lit_fr (w : World) (e : Nat) (fr : Nat × Nat) (cur : Array Value) (n : Nat) (cs : List Value) (h : cur.toList = cs) (hn : cs.length = n) : Row (w.alloc (.cells cur e fr)) (w.heap.size + 1) 1 (some ⟨w.heap.size, 0, none⟩) n cs := by
  subst h
  refine ⟨by omega, fun _ => ⟨w.heap.size, 0, rfl, by omega, fun j _ => ?_⟩⟩
  rw [Nat.zero_add, cell_of_row _ _ j cur e fr (heap_alloc_new w _)]; simp
theorem B8.nil : B8 [] := fun x hx => by cases hx
set_option maxHeartbeats 1000000 in
set_option maxRecDepth 100000 in
theorem sum_any (b : List Nat) (A : Option Addr) (n c D : Nat) (w : World) (hr : Row w D 1 A n (bytes b)) (hD : D ≤ w.heap.size) (hn : n ≤ 140737488355000) (m8 : B8 b) (hL : Laid w) (h0 : 1 < w.heap.size) :
    Calls Tryd.prog 33 #[.slice A n c] w fun e w' => e = .returned (.agg (cellsOf .u8 (up (Sh2.sum b)))) ∧ Below w.heap.size w w' := by
  have hbl : b.length = n := by have := hr.len; rw [bytes_len] at this; omega
  have HR := hid hr; have HL := hid hL; have M8 := hid m8; have HBL := hid hbl
  clear hr hL m8 hbl
  go_enter Tryd.func33, Tryd.ntmps33
  go_wp2_with (with_reducible refine halt_op (some 2) (.alloc _) (fun K hK => ?_))
  refine go_on hK ?_; clear hK
  refine alloc_arr digT rfl rfl ?_
  rintro gd w1 hgd s1 b1 e1
  have hge : w.heap.size ≤ gd := by omega
  have E1 := hid (e1.mono hge); have B1 := hid b1
  clear hgd e1 b1
  go_wp2_with fail
  refine (new_any _).mono ?_
  rintro e w2 ⟨gh, rfl, h1, h2, hb, hbel⟩
  have hgh : gd < gh := by omega
  have E2 := hid ((unhid E1).trans (hbel.mono (by omega)))
  have B2 := hid ((unhid B1).below hbel (by omega))
  have H2 := hid (Hsh.new hb)
  have L2 := hid ((unhid HL).below (unhid E2) h0)
  clear hb hbel E1 B1
  go_wp2_with fail
  refine (write_any gh [] b none A 0 n c D _ (unhid H2) ((unhid HR).below ((unhid E2).mono hD)) (by omega) (fun q hq hd => by omega) (by simp; omega) (by simpa using M8.out) (unhid L2) (by omega)).mono ?_
  rintro e w3 ⟨rfl, A3, c3, H3, K3, _⟩
  rw [List.nil_append] at H3
  have E3' : Below w.heap.size w2 w3 := K3.below (by have := (unhid E2).size; omega) (fun j hj h => h.elim (fun h => by omega) (fun h => by cases h))
  have E3 := hid ((unhid E2).trans E3')
  have B3 := hid ((unhid B2).kept K3 (fun h => h.elim (fun h => by omega) (fun h => by cases h)))
  have HH3 := hid H3
  have L3 := hid ((unhid HL).below (unhid E3) h0)
  clear H3 K3 E3' E2 B2 L2 H2
  go_wp2_with fail
  refine (hsum_any gh b A3 c3 _ (unhid HH3) (by rw [HBL.out]; exact hn) M8.out (unhid L3) (by omega)).mono ?_
  rintro e w4 ⟨rfl, hb4⟩
  have hl3 := (unhid B3).lt'
  have B4 := hid ((unhid B3).below hb4 hl3)
  have E4 := hid ((unhid E3).trans (hb4.mono (by have := (unhid E3).size; omega)))
  clear hb4 E3 B3 HH3
  go_wp2_with (with_reducible refine halt_op none (.store _ _ _) (fun K hK => ?_))
  refine go_on hK ?_; clear hK
  refine store_arr digT (l := up (Sh2.sum b)) rfl (.tmp 2) (.tmp 9) rfl rfl rfl (sum_len_u b) (unhid B4) (by simp [cellsOf]) ?_
  intro w8 b8 g8
  have B8' := hid b8; have E8 := hid ((unhid E4).grown g8 (unhid E4).size (fun q hq => by injection hq with hq; omega)); clear b8 g8
  go_wp2
  exact bodyPost_ret (results_cell_row rfl _ _ gd _ (cellsOf .u8 (up (Sh2.sum b))) (0, 0) _ rfl (unhid B8') digT.under rfl (by rw [cellsOf_size, sum_len_u]; exact digT.size)) rfl ⟨rfl, unhid E8⟩
end Go.Proofs.YtlaoijnlemgdfaaDoor

/- What is joined of shares of a secret is the secret; the walk of the law's fact 'split'. -/
import Derived.Test.YtilaipdpbcfhkaaJoinW
import Derived.Test.YtilaipdpbcfhkaaSplitW
namespace Go.Proofs.Ytilaipdpbcfhkaa
set_option linter.unusedVariables false
open Go.RowKit Go.Mny
theorem getD_map {α β : Type} (f : α → β) (l : List α) (i : Nat) (a : α) (b : β) (h : i < l.length) : (l.map f).getD i b = f (l.getD i a) := by
  rw [List.getD_eq_getElem?_getD, List.getD_eq_getElem?_getD, List.getElem?_map, List.getElem?_eq_getElem h]; rfl
theorem tv_lag (at_ : List Nat) (R : List (List Nat)) (k : Nat) (hR : R.length = at_.length) : ∀ i, i ≤ at_.length → tv (wgtN at_ 0 at_.length) R k i = Fld.lagTo at_ (R.map fun r => r.getD k 0) 0 i
  | 0, _ => rfl
  | i + 1, h => by
    rw [tv, Fld.lagTo, tv_lag at_ R k hR i (by omega)]
    congr 2
    · unfold wgtN
      rw [getD_map _ _ i 0 0 (by rw [List.length_range]; omega)]
      simp [List.getElem?_range (show i < at_.length by omega)]
    · rw [getD_map (fun r : List Nat => r.getD k 0) R i [] 0 (by omega)]
theorem tells (sec : List Nat) (M : List (List Nat)) (at_ : List Nat) (ha : By8s at_) (hn : at_.Nodup) (hs : By8s sec) (hM : ∀ m ∈ M, By8s m) (hl : M.length + 1 ≤ at_.length) :
    outT (wgtN at_ 0 at_.length) (at_.map fun x => datN sec M x sec.length) sec.length at_.length = sec := by
  refine List.ext_getElem (by simp [outT]) fun k h1 h2 => ?_
  simp only [outT, List.getElem_map, List.getElem_range]
  rw [tv_lag _ _ _ (by simp) _ (Nat.le_refl _)]
  have hd : ∀ x, (datN sec M x sec.length).getD k 0 = Fld.ev (sec.getD k 0 :: col M k) x := fun x => by
    unfold datN
    rw [getD_map _ _ k 0 0 (by rw [List.length_range]; exact h2)]
    simp [List.getElem?_range h2]
  have hv : ((at_.map fun x => datN sec M x sec.length).map fun r => r.getD k 0) = at_.map fun x => Fld.ev (sec.getD k 0 :: col M k) x := by
    rw [List.map_map]
    exact List.map_congr_left fun x _ => hd x
  rw [hv]
  have hc : Fld.By (sec.getD k 0 :: col M k) := fun z hz => by
    rcases List.mem_cons.1 hz with rfl | hz
    · exact getD_by hs k
    · exact col_by hM k z hz
  have he := Fld.enough at_ (sec.getD k 0 :: col M k) ha hn hc (by simp [col]; omega) (at_.map fun x => Fld.ev (sec.getD k 0 :: col M k) x)
    (fun z hz => by obtain ⟨x, _, rfl⟩ := List.mem_map.1 hz; exact Fld.ev_lt _ _ hc) (fun j hj => by rw [getD_map _ _ j 0 0 hj]) 0 (by decide)
  unfold Fld.lag at he
  rw [he, Fld.ev_cons, Fld.mul_zero, Nat.zero_xor, List.getD_eq_getElem?_getD, List.getElem?_eq_getElem h2]; rfl
theorem split_tell : splitN [9] [[1]] 2 = [(1, [8]), (2, [11])] := by decide +kernel
set_option maxHeartbeats 2000000 in
set_option maxRecDepth 100000 in
theorem split_fact (w : World) : Calls Try.prog 14 #[] w fun e w' => e = .returned (.bool true) ∧ Below w.heap.size w w' := by
  have e1 : ((w.alloc (.cells #[.int .u8 9] 5)).alloc (.cells #[.int .u8 1] 5)).heap.size = w.heap.size + 2 := by simp
  have B0 := Blk.new w 5 #[.int .u8 9]
  have B1 := Blk.new (w.alloc (.cells #[.int .u8 9] 5)) 5 #[.int .u8 1]
  have B2 := Blk.new ((w.alloc (.cells #[.int .u8 9] 5)).alloc (.cells #[.int .u8 1] 5)) 35 #[.slice (some ⟨w.heap.size + 1, 0, none⟩) 1 1]
  have F0 := (B0.alloc (.cells #[.int .u8 1] 5)).alloc (.cells #[.slice (some ⟨w.heap.size + 1, 0, none⟩) 1 1] 35)
  have F1 := B1.alloc (.cells #[.slice (some ⟨w.heap.size + 1, 0, none⟩) 1 1] 35)
  have EE : Below w.heap.size w (((w.alloc (.cells #[.int .u8 9] 5)).alloc (.cells #[.int .u8 1] 5)).alloc (.cells #[.slice (some ⟨w.heap.size + 1, 0, none⟩) 1 1] 35)) :=
    (((Below.refl _ _).alloc (Nat.le_refl _) _).alloc (by simp) _).alloc (by simp; omega) _
  obtain ⟨w3, hw3⟩ : ∃ w3, (((w.alloc (.cells #[.int .u8 9] 5)).alloc (.cells #[.int .u8 1] 5)).alloc (.cells #[.slice (some ⟨w.heap.size + 1, 0, none⟩) 1 1] 35)) = w3 := ⟨_, rfl⟩
  rw [hw3] at B2 F0 F1 EE
  rw [e1] at B2
  rw [show (w.alloc (.cells #[.int .u8 9] 5)).heap.size = w.heap.size + 1 by simp] at F1
  have R0 : Row w3 (w.heap.size + 3) 1 (some ⟨w.heap.size, 0, none⟩) 1 (byt [9]) := F0.row (by omega) rfl (fun j hj => by simp)
  have R1 : Row w3 (w.heap.size + 3) 1 (some ⟨w.heap.size + 1, 0, none⟩) 1 (byt [1]) := F1.row (by omega) rfl (fun j hj => by simp)
  have R2 : Row w3 (w.heap.size + 3) 1 (some ⟨w.heap.size + 2, 0, none⟩) 1 [Value.slice (some ⟨w.heap.size + 1, 0, none⟩) 1 1] := B2.row (by omega) rfl (fun j hj => by simp)
  have HM : Hid (Mat w3 (w.heap.size + 3) (some ⟨w.heap.size + 2, 0, none⟩) 1 [[1]]) := hid ⟨_, R2, rfl, fun i m hi => by
    cases i with
    | zero => obtain rfl : [1] = m := by simpa using hi
              exact ⟨_, 1, rfl, Nat.le_refl _, R1⟩
    | succ i => simp at hi⟩
  have hz3 : w.heap.size + 3 ≤ w3.heap.size := by rw [← hw3]; simp
  have k1 : By8s [9] := by intro x hx; simp at hx; omega
  have k2 : ∀ m ∈ [[1]], By8s m := by
    intro m hm
    obtain rfl : m = [1] := by simpa using hm
    intro x hx; simp at hx; omega
  have k3 : ∀ m ∈ [[1]], m.length = 1 := by
    intro m hm
    obtain rfl : m = [1] := by simpa using hm
    rfl
  have SP := hid (split_yes [9] [[1]] (some ⟨w.heap.size, 0, none⟩) (some ⟨w.heap.size + 2, 0, none⟩) 1 1 1 1 (w.heap.size + 3) 2 w3 R0 (unhid HM) hz3 k1 k2 (by decide) (by decide) (by decide) (by decide) k3)
  have E3 := hid EE
  have HW := hid hw3
  clear B0 B1 B2 F0 F1 EE R0 R1 R2 HM e1 hw3 k1 k2 k3
  go_enter Try.func14, Try.ntmps14
  go_wp2_with fail
  rw [HW.out]
  refine (unhid SP).mono ?_
  rw [split_tell]
  rintro e w4 ⟨AS, cS, rfl, sS, hb4⟩
  have R4 := ShR.of_shs sS
  obtain ⟨g, o, A', c', rfl, hg, q0, q1, q2, q3⟩ := R4.at (i := 1) (by decide) (x := 2) (d := [11]) rfl
  obtain ⟨g', o', y, rfl, hg', hy, hc⟩ := q3.byte (i := 0) (by decide)
  obtain rfl : 11 = y := by simpa using hy
  have E4 := hid ((unhid E3).trans (hb4.mono (unhid E3).size))
  simp at q0 q1 hc
  clear sS R4 q3 hb4 q2
  go_wp2_with fail
  go_ret
  exact ⟨rfl, unhid E4⟩
end Go.Proofs.Ytilaipdpbcfhkaa

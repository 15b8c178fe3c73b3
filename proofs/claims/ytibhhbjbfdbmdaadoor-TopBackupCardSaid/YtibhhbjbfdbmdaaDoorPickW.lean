/- Shares that are picked tell the secret; the plain part of the walk that picks them. -/
import Derived.Test.YtibhhbjbfdbmdaaDoorJoinW
import Derived.Test.YtibhhbjbfdbmdaaDoorSplitW
import Derived.Test.YtibhhbjbfdbmdaaDoorMatA
namespace Go.Proofs.YtibhhbjbfdbmdaaDoor
set_option linter.unusedVariables false
open Go.RowKit Go.Mny
theorem getD_map {α β : Type} (f : α → β) (l : List α) (i : Nat) (a : α) (b : β) (h : i < l.length) : (l.map f).getD i b = f (l.getD i a) := by
  rw [List.getD_eq_getElem?_getD, List.getD_eq_getElem?_getD, List.getElem?_map, List.getElem?_eq_getElem h]; rfl
theorem tv_lag (at_ : List Nat) (R : List (List Nat)) (k : Nat) (hR : R.length = at_.length) : ∀ i, i ≤ at_.length → tv (wgtN at_ 0 at_.length) R k i = Fld.lagTo at_ (R.map fun r => r.getD k 0) 0 i
  | 0, _ => rfl
  | i + 1, h => by
    rw [tv, Fld.lagTo, tv_lag at_ R k hR i (by omega)]
    congr 2
    · unfold wgtN
      rw [getD_map _ _ i 0 0 (by rw [List.length_range]; omega)]
      simp [List.getElem?_range (show i < at_.length by omega)]
    · rw [getD_map (fun r : List Nat => r.getD k 0) R i [] 0 (by omega)]
theorem tells (sec : List Nat) (M : List (List Nat)) (at_ : List Nat) (ha : By8s at_) (hn : at_.Nodup) (hs : By8s sec) (hM : ∀ m ∈ M, By8s m) (hl : M.length + 1 ≤ at_.length) :
    outT (wgtN at_ 0 at_.length) (at_.map fun x => datN sec M x sec.length) sec.length at_.length = sec := by
  refine List.ext_getElem (by simp [outT]) fun k h1 h2 => ?_
  simp only [outT, List.getElem_map, List.getElem_range]
  rw [tv_lag _ _ _ (by simp) _ (Nat.le_refl _)]
  have hd : ∀ x, (datN sec M x sec.length).getD k 0 = Fld.ev (sec.getD k 0 :: col M k) x := fun x => by
    unfold datN
    rw [getD_map _ _ k 0 0 (by rw [List.length_range]; exact h2)]
    simp [List.getElem?_range h2]
  have hv : ((at_.map fun x => datN sec M x sec.length).map fun r => r.getD k 0) = at_.map fun x => Fld.ev (sec.getD k 0 :: col M k) x := by
    rw [List.map_map]
    exact List.map_congr_left fun x _ => hd x
  rw [hv]
  have hc : Fld.By (sec.getD k 0 :: col M k) := fun z hz => by
    rcases List.mem_cons.1 hz with rfl | hz
    · exact getD_by hs k
    · exact col_by hM k z hz
  have he := Fld.enough at_ (sec.getD k 0 :: col M k) ha hn hc (by simp [col]; omega) (at_.map fun x => Fld.ev (sec.getD k 0 :: col M k) x)
    (fun z hz => by obtain ⟨x, _, rfl⟩ := List.mem_map.1 hz; exact Fld.ev_lt _ _ hc) (fun j hj => by rw [getD_map _ _ j 0 0 hj]) 0 (by decide)
  unfold Fld.lag at he
  rw [he, Fld.ev_cons, Fld.mul_zero, Nat.zero_xor, List.getD_eq_getElem?_getD, List.getElem?_eq_getElem h2]; rfl
def picks (sec : List Nat) (M : List (List Nat)) (qs : List Nat) : List (Nat × List Nat) := qs.map fun q => (q + 1, datN sec M (q + 1) sec.length)
theorem picks_snoc (sec : List Nat) (M : List (List Nat)) (qs : List Nat) (q : Nat) : picks sec M (qs ++ [q]) = picks sec M qs ++ [(q + 1, datN sec M (q + 1) sec.length)] := by simp [picks]
theorem picks_fst (sec : List Nat) (M : List (List Nat)) (qs : List Nat) : (picks sec M qs).map (·.1) = qs.map (· + 1) := by simp [picks]
theorem picks_snd (sec : List Nat) (M : List (List Nat)) (qs : List Nat) : (picks sec M qs).map (·.2) = (qs.map (· + 1)).map fun x => datN sec M x sec.length := by simp [picks]
theorem nodup_up {qs : List Nat} (h : qs.Nodup) : (qs.map (· + 1)).Nodup := List.Pairwise.map _ (fun a b hab => by omega) h
theorem nodup_snoc {qs : List Nat} {q : Nat} (h : qs.Nodup) (hq : ∀ j x : Nat, qs[j]? = some x → x ≠ q) : (qs ++ [q]).Nodup := by
  rw [List.nodup_append]
  refine ⟨h, by simp, fun a ha b hb => ?_⟩
  obtain ⟨j, hj, rfl⟩ := List.getElem_of_mem ha
  rw [List.mem_singleton] at hb
  subst hb
  exact hq j _ (List.getElem?_eq_getElem hj)
theorem take_snoc_map {l : List Int} {qs : List Nat} {i q : Nat} (h : l.take i = qs.map (fun x : Nat => (x : Int))) (hq : l[i]? = some (q : Int)) : l.take (i + 1) = (qs ++ [q]).map (fun x : Nat => (x : Int)) := by
  rw [List.take_add_one, hq, h]; simp
theorem row_int {w : World} {D n : Nat} {A : Option Addr} {l : List Int} {k : IntKind} (h : Row w D 1 A n (l.map (Value.int k))) {i : Nat} (hi : i < n) :
    ∃ (g o : Nat) (z : Int), A = some ⟨g, o, none⟩ ∧ g < D ∧ l[i]? = some z ∧ w.cell? ⟨g, o + i, none⟩ = some (.int k z) := by
  have hl : l.length = n := by have := h.len; rw [List.length_map] at this; omega
  obtain ⟨g, o, e1, e2, e3⟩ := h.cells (by omega)
  obtain ⟨x, hx⟩ : ∃ x, l[i]? = some x := ⟨_, List.getElem?_eq_getElem (by omega)⟩
  exact ⟨g, o, x, e1, e2, hx, by rw [e3 i (by rw [List.length_map]; omega), List.getElem?_map, hx]; rfl⟩
end Go.Proofs.YtibhhbjbfdbmdaaDoor

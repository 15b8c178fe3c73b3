/- How what comes in is opened: a shape of cells for each type, and that whatever reads as data has it; how much it holds at the most. -/
import Derived.Test.YtopddinpmiefjaaDoorRows
import Derived.Test.YtopddinpmiefjaaDoorBase
import Derived.ProofKit
import Derived.OpenShut
import Derived.Deep.Slices
namespace Go.Proofs.YtopddinpmiefjaaDoor
open Go.RowKit Go.Mny

inductive Sh where
  | int (k : IntKind)
  | bool
  | slice (s : Nat) (e : Sh)
  | arr (n s : Nat) (e : Sh)
  | st (n : Nat) (off sz : Nat → Nat) (f : Nat → Sh)

def sumTo (f : Nat → Nat) : Nat → Nat
  | 0 => 0
  | n + 1 => sumTo f n + f n

/-- Type t of the program is of this shape. -/
def Sh.is (P : Program) : Sh → TypeId → Prop
  | .int k, t => P.underlying t = some (.int k)
  | .bool, t => P.underlying t = some .bool
  | .slice s e, t => 0 < s ∧ ∃ u, P.underlying t = some (.slice u) ∧ P.cellsOf u = s ∧ e.is P u
  | .arr n s e, t => P.cellsOf t = n * s ∧ ∃ u, P.underlying t = some (.array n u) ∧ P.cellsOf u = s ∧ e.is P u
  | .st n off sz f, t => ∃ fs, P.underlying t = some (.struct fs) ∧ fs.size = n ∧ ∀ i, i < n → ∃ fd, fs[i]? = some fd ∧ fd.offset = off i ∧ P.cellsOf fd.type = sz i ∧ (f i).is P fd.type

/-- Cells of this shape, of bulk m at the most. -/
def Sh.ok (w : World) (D : Nat) : Sh → Nat → List Value → Prop
  | .int k, m, cs => 1 ≤ m ∧ ∃ z, cs = [.int k z] ∧ (Lit.int k z).wf = true
  | .bool, m, cs => 1 ≤ m ∧ ∃ b, cs = [.bool b]
  | .slice s e, m, cs => ∃ A n c es f, cs = [.slice A n c] ∧ n ≤ c ∧ c ≤ maxLen ∧ Row w D s A n es ∧ sumTo f n + 1 ≤ m ∧ ∀ i, i < n → e.ok w D (f i) ((es.drop (i * s)).take s)
  | .arr n s e, m, cs => cs.length = n * s ∧ ∃ f, sumTo f n + 1 ≤ m ∧ ∀ i, i < n → e.ok w D (f i) ((cs.drop (i * s)).take s)
  | .st n off sz g, m, cs => ∃ f, sumTo f n + 1 ≤ m ∧ ∀ i, i < n → (g i).ok w D (f i) ((cs.drop (off i)).take (sz i))

theorem sumTo_le {f g : Nat → Nat} : ∀ n, (∀ i, i < n → f i ≤ g i) → sumTo f n ≤ sumTo g n
  | 0, _ => Nat.le_refl _
  | n + 1, h => by have := sumTo_le n (fun i hi => h i (by omega)); have := h n (by omega); simp only [sumTo]; omega
theorem sumTo_ones {f : Nat → Nat} : ∀ n, (∀ i, i < n → 1 ≤ f i) → n ≤ sumTo f n
  | 0, _ => Nat.le_refl _
  | n + 1, h => by have := sumTo_ones n (fun i hi => h i (by omega)); have := h n (by omega); simp only [sumTo]; omega
theorem one_le_bulk {H : Type} (d : DataW H) : 1 ≤ Rows.uptoBulk d := by
  cases d with
  | lit l => cases l <;> simp [Rows.uptoBulk]
  | nil => simp [Rows.uptoBulk]
  | ptr d => simp [Rows.uptoBulk]
  | slice elems spare => simp [Rows.uptoBulk]
  | agg parts => simp [Rows.uptoBulk]
  | iface t d => simp [Rows.uptoBulk]
  | map entries => simp [Rows.uptoBulk]
  | held h => simp [Rows.uptoBulk]
theorem bulkAll_append {H : Type} (l r : List (DataW H)) : Rows.uptoBulkAll (l ++ r) = Rows.uptoBulkAll l + Rows.uptoBulkAll r := by
  induction l with
  | nil => simp [Rows.uptoBulkAll]
  | cons x l ih => simp only [List.cons_append, Rows.uptoBulkAll, ih]; omega
theorem bulkAll_range {H : Type} (d : Nat → DataW H) : ∀ n, Rows.uptoBulkAll ((List.range n).map d) = sumTo (fun i => Rows.uptoBulk (d i)) n
  | 0 => rfl
  | n + 1 => by rw [List.range_succ, List.map_append, bulkAll_append, bulkAll_range d n]; simp [sumTo, Rows.uptoBulkAll]
theorem bulkAll_list {H : Type} (l : List (DataW H × List MemPlace)) : Rows.uptoBulkAll (l.map (·.1)) = sumTo (fun i => Rows.uptoBulk (l.getD i (.nil, [])).1) l.length := by
  rw [← bulkAll_range, Deep.map_by_index l (.nil, []) (·.1)]
theorem Sh.one {w : World} {D : Nat} {sh : Sh} {m : Nat} {cs : List Value} (h : sh.ok w D m cs) : 1 ≤ m := by
  cases sh with
  | int k => exact h.1
  | bool => exact h.1
  | slice s e => obtain ⟨A, n, c, es, f, _, _, _, _, h1, _⟩ := h; omega
  | arr n s e => obtain ⟨_, f, h1, _⟩ := h; omega
  | st n off sz g => obtain ⟨f, h1, _⟩ := h; omega

theorem add_none (g o j : Nat) : (⟨g, o, none⟩ : Addr).add j = ⟨g, o + j, none⟩ := by
  unfold Addr.add; split
  · rename_i h; subst h; rfl
  · rfl

section
variable {H : Type} {enc : TypeId × Value → H} {P : Program} {w : World} {base : Nat} {spare : Nat → Bool} {held : Bool}
/-- WHATEVER READS AS DATA HAS ITS TYPE's SHAPE. -/
theorem ok_of_trod : ∀ (sh : Sh) (t : TypeId) (fuel : Nat) (cs : List Value) (x : DataW H × List MemPlace), sh.is P t →
    DataW.trod enc P w base spare held fuel t cs = some x → sh.ok w w.heap.size (Rows.uptoBulk x.1) cs := by
  intro sh
  induction sh with
  | int k => intro t fuel cs x hi h; obtain ⟨z, rfl, rfl, hz⟩ := DataW.trod_int hi h; exact ⟨one_le_bulk _, z, rfl, hz⟩
  | bool => intro t fuel cs x hi h; obtain ⟨b, rfl, rfl⟩ := DataW.trod_bool hi h; exact ⟨one_le_bulk _, b, rfl⟩
  | slice s e ih =>
    intro t fuel cs x hi h
    obtain ⟨hs, u, hu, hc, he⟩ := hi
    rcases Deep.open_slice hu h with ⟨rfl, rfl⟩ | ⟨a, len, cap, m, n, Dd, Pl, rfl, hb, hl, hm, hmm, rfl, hel⟩
    · exact ⟨none, 0, 0, [], fun _ => 0, rfl, Nat.le_refl _, Nat.zero_le _, Row.nil _ _ _ _, one_le_bulk _, fun i hi => absurd hi (Nat.not_lt_zero i)⟩
    · have hlm : len ≤ m := by rw [hmm]; split <;> omega
      rw [hc] at hel
      have hel' : ∀ i, i < len → ∃ cs', w.cells? base (a.add (i * s)) s = some cs' ∧ DataW.trod enc P w base spare held n u cs' = some (Dd i, Pl i) := fun i hi => hel i (by omega)
      obtain ⟨F, hF⟩ := Deep.choose_lt (α := List Value) hel'
      have hFl : ∀ i, i < len → (F i).length = s := fun i hi => (World.cells?_some (hF i hi).1).2.1
      have flat : ∀ k, k ≤ len → ((List.range k).flatMap F).length = k * s := by
        intro k; induction k with
        | zero => intro _; simp
        | succ k ihk => intro hk; rw [List.range_succ, List.flatMap_append, List.length_append, ihk (by omega)]; simp [hFl k (by omega)]; rw [Nat.succ_mul]
      have part : ∀ k, k ≤ len → ∀ i, i < k → (((List.range k).flatMap F).drop (i * s)).take s = F i := by
        intro k; induction k with
        | zero => intro _ i hi; omega
        | succ k ihk =>
          intro hk i hi
          rw [List.range_succ, List.flatMap_append]
          have fl := flat k (by omega)
          by_cases hik : i = k
          · subst hik
            rw [List.drop_append, List.drop_of_length_le (by omega), fl, Nat.sub_self]
            simp [List.take_of_length_le, hFl i (by omega)]
          · have hle : i * s + s ≤ k * s := by rw [← Nat.succ_mul]; exact Nat.mul_le_mul_right s (by omega)
            rw [List.drop_append_of_le_length (by omega), List.take_append_of_le_length (by rw [List.length_drop]; omega)]
            exact ihk (by omega) i (by omega)
      refine ⟨some a, len, cap, (List.range len).flatMap F, fun i => Rows.uptoBulk (Dd i), rfl, hl, hm, ⟨flat len (Nat.le_refl _), fun hn => ?_⟩, ?_, fun i hi => ?_⟩
      · have c0 := (World.cells?_some (hF 0 hn).1).2.2 0 hs
        have hl0 := hFl 0 hn
        rw [List.getElem?_eq_getElem (by omega), Nat.zero_mul] at c0
        have c0' : w.cell? a = some (F 0)[0] := by simpa [Addr.add] using c0
        have hsp := World.cell?_spot c0'
        obtain ⟨g, o, sp⟩ := a
        simp only at hsp
        subst hsp
        refine ⟨g, o, rfl, World.block_lt_of_cell? w _ c0', fun j hj => ?_⟩
        rw [flat len (Nat.le_refl _)] at hj
        have hjs : j / s < len := Nat.div_lt_of_lt_mul (by rw [Nat.mul_comm]; exact hj)
        have hm2 : j % s < s := Nat.mod_lt _ hs
        have cj := (World.cells?_some (hF (j / s) hjs).1).2.2 (j % s) hm2
        rw [add_none, add_none] at cj
        have e1 : o + j / s * s + j % s = o + j := by have := Nat.div_add_mod' j s; omega
        rw [e1] at cj
        rw [cj, ← part len (Nat.le_refl _) (j / s) hjs, List.getElem?_take, if_pos hm2, List.getElem?_drop]
        congr 1
        exact Nat.div_add_mod' j s
      · show sumTo _ len + 1 ≤ Rows.uptoBulk (DataW.slice _ _)
        simp only [Rows.uptoBulk, bulkAll_range]
        omega
      · rw [part len (Nat.le_refl _) i hi]
        exact ih u n (F i) (Dd i, Pl i) he (hF i hi).2
  | arr n s e ih =>
    intro t fuel cs x hi h
    obtain ⟨ht, u, hu, hc, he⟩ := hi
    obtain ⟨xs, m, _, rfl, hlen, hxs, hel⟩ := DataW.trod_array hu h
    rw [hc] at hel
    refine ⟨by rw [hlen, ht], fun i => Rows.uptoBulk (xs.getD i (.nil, [])).1, ?_, fun i hi => ?_⟩
    · show sumTo _ n + 1 ≤ Rows.uptoBulk (DataW.agg _)
      simp only [Rows.uptoBulk, bulkAll_list, hxs]
      omega
    · have := hel i hi
      rw [List.getElem?_eq_getElem (by omega)] at this
      have h2 := ih u m _ _ he this
      have e1 : xs.getD i (.nil, []) = xs[i] := by simp [List.getElem?_eq_getElem (show i < xs.length by omega)]
      show Sh.ok _ _ _ (Rows.uptoBulk (xs.getD i (.nil, [])).1) _
      rw [e1]; exact h2
  | st n off sz f ih =>
    intro t fuel cs x hi h
    obtain ⟨fs, hu, hn, hf⟩ := hi
    obtain ⟨xs, m, _, rfl, hlen, hxs, hel⟩ := DataW.trod_struct hu h
    refine ⟨fun i => Rows.uptoBulk (xs.getD i (.nil, [])).1, ?_, fun i hi => ?_⟩
    · show sumTo _ n + 1 ≤ Rows.uptoBulk (DataW.agg _)
      simp only [Rows.uptoBulk, bulkAll_list, hxs, hn]
      omega
    · obtain ⟨fd, h1, h2, h3, h4⟩ := hf i hi
      have := hel i fd h1
      rw [h2, h3, List.getElem?_eq_getElem (by omega)] at this
      have h5 := ih i fd.type m _ _ h4 this
      have e1 : xs.getD i (.nil, []) = xs[i] := by simp [List.getElem?_eq_getElem (show i < xs.length by omega)]
      show Sh.ok _ _ _ (Rows.uptoBulk (xs.getD i (.nil, [])).1) _
      rw [e1]; exact h5
theorem ok_of_Trod {sh : Sh} {t : TypeId} {v : Value} {d : DataW H} {ps : List MemPlace} (hi : sh.is P t) (h : DataW.Trod enc P w base spare held t v d ps) :
    sh.ok w w.heap.size (Rows.uptoBulk d) v.cells.toList := by
  obtain ⟨fuel, hf⟩ := h
  exact ok_of_trod sh t fuel _ _ hi hf
end

/-! ### What the shapes give -/
theorem chunk1 (l : List Value) (i : Nat) : (l.drop (i * 1)).take 1 = (l[i]?).toList := by
  rw [Nat.mul_one]
  cases h : l[i]? with
  | none => rw [List.drop_of_length_le (by simpa using h)]; rfl
  | some v => obtain ⟨hi, rfl⟩ := List.getElem?_eq_some_iff.1 h; rw [List.drop_eq_getElem_cons hi]; rfl
theorem ints_of {w : World} {D : Nat} {k : IntKind} : ∀ (n : Nat) (cs : List Value) (f : Nat → Nat), cs.length = n → (∀ i, i < n → (Sh.int k).ok w D (f i) ((cs.drop (i * 1)).take 1)) →
    ∃ l : List Int, cs = l.map (Value.int k) ∧ l.length = n ∧ ∀ z ∈ l, (Lit.int k z).wf = true := by
  intro n cs f hl h
  have each : ∀ c ∈ cs, ∃ z, c = Value.int k z ∧ (Lit.int k z).wf = true := by
    intro c hc
    obtain ⟨i, hi, rfl⟩ := List.getElem_of_mem hc
    obtain ⟨_, z, hz, hw⟩ := h i (by omega)
    rw [chunk1, List.getElem?_eq_getElem hi] at hz
    exact ⟨z, by simpa using hz, hw⟩
  have all : ∀ cs : List Value, (∀ c ∈ cs, ∃ z, c = Value.int k z ∧ (Lit.int k z).wf = true) → ∃ l : List Int, cs = l.map (Value.int k) ∧ ∀ z ∈ l, (Lit.int k z).wf = true := by
    intro cs; induction cs with
    | nil => intro _; exact ⟨[], rfl, by simp⟩
    | cons c cs ih =>
      intro hc
      obtain ⟨z, rfl, hz⟩ := hc c (by simp)
      obtain ⟨l, rfl, hw⟩ := ih fun c' h' => hc c' (by simp [h'])
      exact ⟨z :: l, rfl, by intro y hy; rcases List.mem_cons.1 hy with rfl | hy; exact hz; exact hw y hy⟩
  obtain ⟨l, rfl, hw⟩ := all cs each
  exact ⟨l, rfl, by simpa using hl, hw⟩
/-- a slice of integers -/
theorem Sh.ints {w : World} {D m : Nat} {k : IntKind} {v : Value} (h : (Sh.slice 1 (.int k)).ok w D m [v]) :
    ∃ (A : Option Addr) (n c : Nat) (l : List Int), v = .slice A n c ∧ n ≤ c ∧ c ≤ maxLen ∧ Row w D 1 A n (l.map (Value.int k)) ∧ (∀ z ∈ l, (Lit.int k z).wf = true) ∧ n + 1 ≤ m := by
  obtain ⟨A, n, c, es, f, hv, h1, h2, h3, h4, h5⟩ := h
  obtain ⟨l, rfl, hl, hw⟩ := ints_of n es f (by have := h3.len; omega) h5
  have hn := sumTo_ones n (fun i hi => Sh.one (h5 i hi))
  exact ⟨A, n, c, l, by simpa using hv, h1, h2, h3, hw, by omega⟩
/-- a digest -/
theorem Sh.digest {w : World} {D m n : Nat} {k : IntKind} {cs : List Value} (h : (Sh.arr n 1 (.int k)).ok w D m cs) :
    ∃ l : List Int, cs = l.map (Value.int k) ∧ l.length = n ∧ ∀ z ∈ l, (Lit.int k z).wf = true := by
  obtain ⟨h1, f, _, h2⟩ := h
  exact ints_of n cs f (by omega) h2
/-- a value of several cells is written out -/
theorem agg_of {v : Value} {cs : List Value} (h : v.cells.toList = cs) (hn : cs.length ≠ 1) : v = .agg cs.toArray := by
  cases v <;> first | (simp [Value.cells] at h; subst h; exact absurd rfl hn) | (simp [Value.cells] at h; subst h; simp)
end Go.Proofs.YtopddinpmiefjaaDoor

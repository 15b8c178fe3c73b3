/- Words for memory that these proofs use: a slice that reads as cells ('Row'), one that the call owns ('Own'), a whole block ('Blk'), append as one step. Over any program. -/
import Derived.WalkKit
import Derived.WalkLawsBesides
import Derived.Maps.AppendAt
import Derived.Lib.Hide
import Derived.Handy
import Derived.Deep.Draws
namespace Go.Mny
open Go.RowKit

theorem hid {p : Prop} (h : p) : Hid p := h
theorem unhid {p : Prop} (h : Hid p) : p := h

/-- To let a walk stand where it is: the goal waits behind a letter. -/
theorem halt_at {p : Prop} (h : ∀ K : Prop, Hid (p → K) → K) : p := h p id
theorem go_on {p K : Prop} (hK : Hid (p → K)) (h : p) : K := hK h

/-- The slice of n elements (s cells each) at A reads as the cells cs, below block D. -/
structure Row (w : World) (D s : Nat) (A : Option Addr) (n : Nat) (cs : List Value) : Prop where
  len : cs.length = n * s
  cells : 0 < n → ∃ g o, A = some ⟨g, o, none⟩ ∧ g < D ∧ ∀ j, j < cs.length → w.cell? ⟨g, o + j, none⟩ = cs[j]?

/-- The slice is the call's own, made from block B on. -/
def Own (w : World) (B e s : Nat) (A : Option Addr) (n c : Nat) (cs : List Value) : Prop := w.ownsRow B e s (.slice A n c) n cs

/-- Block g holds just these cells. -/
def Blk (w : World) (g e : Nat) (cs : Array Value) : Prop := w.heap[g]? = some (.cells cs e (0, 0))

/-- The block where a slice lies. -/
def at_ (A : Option Addr) : Option Nat := A.map (·.block)

theorem _root_.Go.RowKit.Below.drewN {B : Nat} {a w : World} (h : Below B a w) (n : Nat) : Below B a (w.drewN n) := ⟨h.os, h.tape, h.output, h.size, h.block⟩
theorem at_own (A : Option Addr) (n c : Nat) : (Value.slice A n c).ownBlock = at_ A := by cases A <;> rfl

section
variable {w w' : World} {D D' B B' e s n c g : Nat} {A : Option Addr} {cs xs : List Value}

theorem Row.nil (w : World) (D s : Nat) (A : Option Addr) : Row w D s A 0 [] := ⟨by simp, fun h => absurd h (Nat.lt_irrefl 0)⟩
theorem Row.keep (h : Row w D s A n cs) (hk : ∀ p : Addr, p.block < D → w'.cell? p = w.cell? p) : Row w' D s A n cs :=
  ⟨h.len, fun hn => let ⟨g, o, e1, e2, e3⟩ := h.cells hn; ⟨g, o, e1, e2, fun j hj => (hk ⟨g, o + j, none⟩ e2).trans (e3 j hj)⟩⟩
theorem Row.more (h : Row w D s A n cs) (hD : D ≤ D') : Row w D' s A n cs :=
  ⟨h.len, fun hn => let ⟨g, o, e1, e2, e3⟩ := h.cells hn; ⟨g, o, e1, Nat.lt_of_lt_of_le e2 hD, e3⟩⟩
theorem Row.below (h : Row w D s A n cs) (hb : Below D w w') : Row w' D s A n cs := h.keep fun _ hp => hb.cell hp
theorem Row.drew (h : Row w D s A n cs) : Row w.drew D s A n cs := ⟨h.len, h.cells⟩
theorem Row.alloc (h : Row w D s A n cs) (hD : D ≤ w.heap.size) (o : Obj) : Row (w.alloc o) D s A n cs :=
  h.keep fun p hp => World.cell?_alloc_lt w o p (Nat.lt_of_lt_of_le hp hD)
theorem Row.setCell (h : Row w D s A n cs) {p : Addr} (hD : D ≤ p.block) (u : Value) : Row (w.setCell p u) D s A n cs :=
  h.keep fun q hq => World.cell?_setCell_other w p q u (fun he => by subst he; exact absurd hq (by omega))
theorem Row.grown (h : Row w D s A n cs) {row : Option Nat} (hg : w.grownBy w' row) (hD : D ≤ w.heap.size) (hr : ∀ k, row = some k → D ≤ k) : Row w' D s A n cs :=
  h.keep fun p hp => World.cell?_of_block (hg.block p.block (by omega) (fun he => by have := hr _ he.symm; omega))
/-- a part of it: from element i to element j -/
theorem Row.part (h : Row w D s A n cs) {i j : Nat} (hij : i ≤ j) (hj : j ≤ n) {cap : Nat} (hc : n ≤ cap) :
    Row w D s (if cap = i then A else A.map (·.add (i * s))) (j - i) ((cs.take (j * s)).drop (i * s)) := by
  have hl : (cs.take (j * s)).length = j * s := by rw [List.length_take, h.len, Nat.min_eq_left (Nat.mul_le_mul_right _ hj)]
  refine ⟨by rw [List.length_drop, hl, Nat.sub_mul], fun hn => ?_⟩
  obtain ⟨g, o, rfl, h1, h2⟩ := h.cells (by omega)
  rw [if_neg (by omega)]
  refine ⟨g, o + i * s, ?_, h1, fun k hk => ?_⟩
  · simp only [Option.map_some, Addr.add]
    split
    · rename_i hz; rw [hz]; rfl
    · rfl
  · rw [List.length_drop, hl] at hk
    have hk2 : i * s + k < cs.length := by rw [h.len]; have := Nat.mul_le_mul_right s hj; omega
    rw [Nat.add_assoc, h2 _ hk2, List.getElem?_drop, List.getElem?_take, if_pos (by omega)]
theorem Row.of_own (h : Own w B e s A n c cs) : Row w w.heap.size s A n cs := by
  obtain ⟨h1, h2⟩ := h
  refine ⟨h1, fun hn => ?_⟩
  rcases h2 with ⟨_, h0⟩ | ⟨g, cap, cur, hv, hb, hg, hnc, hcm, hcs, ht⟩
  · omega
  · injection hv with e1 e2 e3
    subst e1
    refine ⟨g, 0, rfl, (Array.getElem?_eq_some_iff.1 hg).1, fun j hj => ?_⟩
    rw [Nat.zero_add, cell_of_row w g j cur e (0, 0) hg, ← ht, List.getElem?_take, if_pos (by rw [← ht] at hj; rw [List.length_take] at hj; omega)]
    simp
theorem Own.len (h : Own w B e s A n c cs) : cs.length = n * s := h.1
theorem Own.le (h : Own w B e s A n c cs) : n ≤ c ∧ c ≤ maxLen := by
  rcases h.2 with ⟨hv, h0⟩ | ⟨g, cap, cur, hv, _, _, hnc, hcm, _⟩
  · injection hv with _ e2 e3; subst e2; subst e3; exact ⟨Nat.le_refl _, Nat.zero_le _⟩
  · injection hv with _ _ e3; subst e3; exact ⟨hnc, hcm⟩
theorem Own.from_ (h : Own w B e s A n c cs) : ∀ k, at_ A = some k → B ≤ k ∧ k < w.heap.size := by
  intro k hk
  exact World.ownsRow.lt h k (by rw [at_own]; exact hk)
theorem Own.alloc (h : Own w B e s A n c cs) (o : Obj) : Own (w.alloc o) B e s A n c cs := World.ownsRow.alloc h o
theorem Own.drew (h : Own w B e s A n c cs) : Own w.drew B e s A n c cs := h
theorem Own.less (h : Own w B e s A n c cs) (hB : B' ≤ B) : Own w B' e s A n c cs := by
  refine ⟨h.1, ?_⟩
  rcases h.2 with h2 | ⟨g, cap, cur, hv, hb, r⟩
  · exact .inl h2
  · exact .inr ⟨g, cap, cur, hv, Nat.le_trans hB hb, r⟩
theorem Own.none (w : World) (B e s : Nat) : Own w B e s none 0 0 [] := World.ownsRow_nil w B e s
theorem Own.lit (w : World) (B e s n : Nat) (cur : Array Value) (hB : B ≤ w.heap.size) (hm : n ≤ maxLen) (hs : cur.size = n * s) :
    Own (w.alloc (.cells cur e)) B e s (some ⟨w.heap.size, 0, Option.none⟩) n n cur.toList :=
  ⟨by simpa using hs, .inr ⟨w.heap.size, n, cur, rfl, hB, heap_alloc_new w _, Nat.le_refl _, hm, hs, List.take_of_length_le (by simp [hs])⟩⟩
theorem Own.lit_at (w : World) (B e s n g : Nat) (cur : Array Value) (cs : List Value) (hg : g = w.heap.size) (hB : B ≤ w.heap.size) (hm : n ≤ maxLen) (hs : cur.size = n * s) (hc : cur.toList = cs) :
    Own (w.alloc (.cells cur e)) B e s (some ⟨g, 0, Option.none⟩) n n cs := by subst hg; subst hc; exact Own.lit w B e s n cur hB hm hs
/-- kept where another block turns -/
theorem Own.keep (h : Own w B e s A n c cs) (hk : ∀ g, at_ A = some g → w'.heap[g]? = w.heap[g]?) : Own w' B e s A n c cs := by
  refine ⟨h.1, ?_⟩
  rcases h.2 with h2 | ⟨g, cap, cur, hv, hb, hg, r⟩
  · exact .inl h2
  · refine .inr ⟨g, cap, cur, hv, hb, ?_, r⟩
    injection hv with e1
    rw [hk g (by rw [e1]; rfl)]; exact hg
theorem Own.below (h : Own w B e s A n c cs) (hb : Below D w w') (hD : w.heap.size ≤ D) : Own w' B e s A n c cs :=
  h.keep fun g hg => hb.block g (by have := (h.from_ g hg).2; omega)
theorem Blk.lt (h : Blk w g e cs.toArray) : g < w.heap.size := (Array.getElem?_eq_some_iff.1 h).1
end

section
variable {w w' : World} {g e : Nat} {cs : Array Value}
theorem Blk.lt' (h : Blk w g e cs) : g < w.heap.size := (Array.getElem?_eq_some_iff.1 h).1
theorem Blk.cell (h : Blk w g e cs) (i : Nat) : w.cell? ⟨g, i, none⟩ = cs[i]? := cell_of_row w g i cs e (0, 0) h
theorem Blk.free (h : Blk w g e cs) (i : Nat) : w.frozen? ⟨g, i, none⟩ = false := frozen_of_row w g i cs e h
theorem Blk.new (w : World) (e : Nat) (cs : Array Value) : Blk (w.alloc (.cells cs e)) w.heap.size e cs := heap_alloc_new w _
theorem Blk.drew (h : Blk w g e cs) : Blk w.drew g e cs := h
theorem Blk.alloc (h : Blk w g e cs) (o : Obj) : Blk (w.alloc o) g e cs := (Below.heap_alloc w o g h.lt').trans h
theorem Blk.put (h : Blk w g e cs) (i : Nat) (u : Value) : Blk (w.setCell ⟨g, i, none⟩ u) g e (cs.setIfInBounds i u) := heap_setCell_same w g i cs e u h
theorem Blk.far (h : Blk w g e cs) {p : Addr} (hp : g ≠ p.block) (u : Value) : Blk (w.setCell p u) g e cs := (Below.heap_setCell w p u g hp).trans h
theorem Blk.below {D : Nat} (h : Blk w g e cs) (hb : Below D w w') (hg : g < D) : Blk w' g e cs := (hb.block g hg).trans h
theorem Blk.grown {row : Option Nat} (h : Blk w g e cs) (hb : w.grownBy w' row) (hg : row ≠ some g) : Blk w' g e cs := (hb.block g h.lt' (fun he => hg he.symm)).trans h
/-- a slice of a whole block -/
theorem Blk.row {D s n o : Nat} (h : Blk w g e cs) (hD : g < D) {L : List Value} (hL : L.length = n * s) (hc : ∀ j, j < L.length → cs[o + j]? = L[j]?) : Row w D s (some ⟨g, o, none⟩) n L :=
  ⟨hL, fun _ => ⟨g, o, rfl, hD, fun j hj => (h.cell (o + j)).trans (hc j hj)⟩⟩
end

/-- What the program's table says of a slice type's elements. -/
structure Elt (P : Program) (t e s b : Nat) : Prop where
  under : P.underlying t = some (.slice e)
  info : ∃ i z, P.info? e = some i ∧ i.zero = some z ∧ i.size = s ∧ i.bytes = b ∧ z.cells.size = s
  pos : 0 < s

theorem Elt.of {P : Program} {t e s b : Nat} (hu : P.underlying t = some (.slice e)) (z : Value)
    (hi : (P.info? e).map (fun i => (i.zero, i.size, i.bytes)) = some (some z, s, b)) (hz : z.cells.size = s) (hs : 0 < s) : Elt P t e s b := by
  obtain ⟨i, h1, h2, h3, h4⟩ := info_parts hi
  exact ⟨hu, ⟨i, z, h1, h2, h3, h4, hz⟩, hs⟩

theorem append_none {P : Program} {w : World} {B t ty e s b : Nat} (E : Elt P t e s b) {A : Option Addr} {n c : Nat} {xs : List Value} (hown : Own w B e s A n c xs) (c' : Nat) :
    (Builtin.append_ #[t, t] ty #[.slice A n c, .slice none 0 c']).run P w = .ok (.slice A n c) w := by
  obtain ⟨i, z, hi, hz, h1, h2, h3⟩ := E.info
  rcases hown.2 with ⟨hv, h0⟩ | ⟨g, cap, cur, hv, hb, hg, hnc, hcm, hcs, ht⟩
  · injection hv with e1 e2 e3
    subst e1; subst e2; subst e3
    simp [Builtin.append_, run_underlying E.under, sizeOf, typeInfo, hi, Builtin.lenOf, Builtin.firstCells]
  · injection hv with e1 e2 e3
    subst e1; subst e3
    simp [Builtin.append_, run_underlying E.under, sizeOf, typeInfo, hi, Builtin.lenOf, Builtin.firstCells, hnc, storeCells]

/-- append, whatever is appended: what was owned goes on, with it behind. -/
theorem run_app {P : Program} {w : World} {B t ty e s b : Nat} (E : Elt P t e s b) {A : Option Addr} {n c : Nat} {xs : List Value} (hown : Own w B e s A n c xs)
    {D : Nat} {A' : Option Addr} {m c' : Nat} {news : List Value} (hrow : Row w D s A' m news) (h1 : ∀ u ∈ news, u.oneCell' = true)
    (hm : n + m ≤ maxLen) (hroom : (n + m) * b ≤ 140737488355328) (hB : B ≤ w.heap.size) :
    ∃ A2 c2 w2, (Builtin.append_ #[t, t] ty #[.slice A n c, .slice A' m c']).run P w = .ok (.slice A2 (n + m) c2) w2 ∧ Own w2 B e s A2 (n + m) c2 (xs ++ news) ∧ w.grownBy w2 (at_ A) ∧
      (at_ A2 = at_ A ∨ at_ A2 = some w.heap.size) := by
  obtain ⟨i, z, hi, hz, e1, e2, e3⟩ := E.info
  by_cases h0 : m = 0
  · subst h0
    have hn : news = [] := List.eq_nil_of_length_eq_zero (by simpa using hrow.len)
    subst hn
    cases A' with
    | none => exact ⟨A, c, w, append_none E hown c', by simpa using hown, World.grownBy.refl w _, .inl rfl⟩
    | some ad =>
      obtain ⟨v', w', hr, g1, g2, _, g4⟩ := run_append_own_at (P := P) w B t ty e i z s b E.under hi hz e1 e2 e3 E.pos _ n xs hown ad 0 c' [] (by simp) (by simp) (by simp) hm hroom hB
      rw [at_own] at g2 g4
      rcases g1.2 with ⟨rfl, hz0⟩ | ⟨g, cap, cur, rfl, r⟩
      · rw [hz0] at g1 ⊢; exact ⟨none, 0, w', hr, g1, g2, g4⟩
      · exact ⟨_, _, w', hr, g1, g2, g4⟩
  · obtain ⟨g, o, rfl, hg, hc⟩ := hrow.cells (by omega)
    obtain ⟨v', w', hr, g1, g2, _, g4⟩ := run_append_own_at (P := P) w B t ty e i z s b E.under hi hz e1 e2 e3 E.pos _ n xs hown ⟨g, o, none⟩ m c' news hrow.len (by
      intro j u hu
      have hj := (List.getElem?_eq_some_iff.1 hu).1
      have hadd : (⟨g, o, none⟩ : Addr).add j = ⟨g, o + j, none⟩ := by
        unfold Addr.add; split
        · rename_i hz; subst hz; rfl
        · rfl
      rw [hadd, hc j hj]; exact hu) h1 hm hroom hB
    rw [at_own] at g2 g4
    rcases g1.2 with ⟨rfl, hz0⟩ | ⟨g, cap, cur, rfl, r⟩
    · omega
    · exact ⟨_, _, w', hr, g1, g2, g4⟩

theorem app_step {P : Program} {t e s b : Nat} (E : Elt P t e s b) {w : World} {ops : Array Oper} {rest : List Oper} {o : Oper} {a : Act} {Q : Exit → Act → World → Prop} (hgd : o.guard = none)
    (x y : Operand) (ho : o.op = .call { callee := .builtin .append, args := #[x, y], argTypes := #[t, t] })
    {B : Nat} {A : Option Addr} {n c : Nat} {xs : List Value} (hx : a.eval x = .slice A n c) (hown : Own w B e s A n c xs)
    {D : Nat} {A' : Option Addr} {m c' : Nat} {news : List Value} (hy : a.eval y = .slice A' m c') (hrow : Row w D s A' m news) (h1 : ∀ u ∈ news, u.oneCell' = true)
    (hm : n + m ≤ maxLen) (hroom : (n + m) * b ≤ 140737488355328) (hB : B ≤ w.heap.size)
    (k : ∀ A2 c2 w2, Own w2 B e s A2 (n + m) c2 (xs ++ news) → w.grownBy w2 (at_ A) → (at_ A2 = at_ A ∨ at_ A2 = some w.heap.size) → wpList P ops Q rest (a.put o.dst (.slice A2 (n + m) c2)) w2) :
    wpList P ops Q (o :: rest) a w := by
  refine wpList_plain hgd fun K hK => ?_
  obtain ⟨A2, c2, w2, hr, g1, g2, g3⟩ := run_app (P := P) (ty := o.type) E hown (c' := c') hrow h1 hm hroom hB
  unfold Oper.wp execOp
  simp only [ho, resolve, invoke, builtin, Sem.run_bind, Sem.run_pure, Result.andThen_ok, List.map_toArray, List.map_cons, List.map_nil, hx, hy, hr]
  exact hK _ _ (k A2 c2 w2 g1 g2 g3)

/-- the same, onto what is empty -/
theorem app_new {P : Program} {t e s b : Nat} (E : Elt P t e s b) {w : World} {ops : Array Oper} {rest : List Oper} {o : Oper} {a : Act} {Q : Exit → Act → World → Prop} (hgd : o.guard = none)
    (x y : Operand) (ho : o.op = .call { callee := .builtin .append, args := #[x, y], argTypes := #[t, t] })
    {B : Nat} {A : Option Addr} {c : Nat} (hx : a.eval x = .slice A 0 c) (hown : Own w B e s A 0 c [])
    {D : Nat} {A' : Option Addr} {m c' : Nat} {news : List Value} (hy : a.eval y = .slice A' m c') (hrow : Row w D s A' m news) (h1 : ∀ u ∈ news, u.oneCell' = true)
    (hm : m ≤ maxLen) (hroom : m * b ≤ 140737488355328) (hB : B ≤ w.heap.size)
    (k : ∀ A2 c2 w2, Own w2 B e s A2 m c2 news → w.grownBy w2 (at_ A) → (at_ A2 = at_ A ∨ at_ A2 = some w.heap.size) → wpList P ops Q rest (a.put o.dst (.slice A2 m c2)) w2) :
    wpList P ops Q (o :: rest) a w :=
  app_step E hgd x y ho hx hown hy hrow h1 (by omega) (by rw [Nat.zero_add]; exact hroom) hB fun A2 c2 w2 h1 h2 h3 => by
    simp only [Nat.zero_add, List.nil_append] at h1 ⊢
    exact k A2 c2 w2 h1 h2 h3

theorem ints_one (k : IntKind) (l : List Int) : ∀ u ∈ l.map (Value.int k), u.oneCell' = true := by
  intro u hu; obtain ⟨z, _, rfl⟩ := List.mem_map.1 hu; rfl

/-- One element of a slice of integers: where it lies, and what it is. -/
theorem Row.int {w : World} {D : Nat} {A : Option Addr} {n : Nat} {k : IntKind} {l : List Int} (h : Row w D 1 A n (l.map (Value.int k))) {i : Nat} (hi : i < n) :
    ∃ g o x, A = some ⟨g, o, none⟩ ∧ g < D ∧ Hid (l[i]? = some x) ∧ w.cell? ⟨g, o + i, none⟩ = some (.int k x) := by
  have hl : l.length = n := by have := h.len; simpa using this
  obtain ⟨g, o, e1, e2, e3⟩ := h.cells (by omega)
  have hi' : i < l.length := by omega
  refine ⟨g, o, l[i], e1, e2, List.getElem?_eq_getElem hi', ?_⟩
  rw [e3 i (by simpa using hi')]
  simp [List.getElem?_eq_getElem hi']
theorem Row.length {w : World} {D : Nat} {A : Option Addr} {n : Nat} {k : IntKind} {l : List Int} (h : Row w D 1 A n (l.map (Value.int k))) : l.length = n := by
  have := h.len; simpa using this
/-- A row of new cells. -/
theorem Row.lit (w : World) (e : Nat) (cur : Array Value) (n : Nat) (cs : List Value) (h : cur.toList = cs) (hn : cs.length = n) : Row (w.alloc (.cells cur e)) (w.heap.size + 1) 1 (some ⟨w.heap.size, 0, none⟩) n cs := by
  subst h
  refine ⟨by omega, fun _ => ⟨w.heap.size, 0, rfl, by omega, fun j _ => ?_⟩⟩
  rw [Nat.zero_add, (Blk.new w e cur).cell j]; simp
theorem Row.lit_at (w : World) (e : Nat) (cur : Array Value) (n g : Nat) (cs : List Value) (hg : g = w.heap.size) (h : cur.toList = cs) (hn : cs.length = n) : Row (w.alloc (.cells cur e)) (w.heap.size + 1) 1 (some ⟨g, 0, none⟩) n cs := by
  subst hg; exact Row.lit w e cur n cs h hn
/-- A row of one new cell. -/
theorem Row.one (w : World) (e : Nat) (v : Value) : Row (w.alloc (.cells #[v] e)) (w.heap.size + 1) 1 (some ⟨w.heap.size, 0, none⟩) 1 [v] :=
  ⟨rfl, fun _ => ⟨w.heap.size, 0, rfl, by omega, fun j hj => by
    match j, hj with
    | 0, _ => simp⟩⟩
end Go.Mny

/- Ops, locks and coins as values: their cells, and that they read so. -/
import Derived.Test.YtibhhbjbfdbmdaaDoorOpen
import Derived.Test.YtibhhbjbfdbmdaaDoorShaOfW
import Derived.Test.YtibhhbjbfdbmdaaDoorNats
import Derived.OpenShut
namespace Go.Proofs.YtibhhbjbfdbmdaaDoor
set_option linter.unusedVariables false
open Go.RowKit Go.Mny
/-- an op of a lock, and where its data lie -/
structure OpC where
  op : Int
  n : Int
  A : Option Addr
  len : Nat
  cap : Nat
  d : List Nat
def oc (o : OpC) : List Value := [.int .i64 o.op, .int .i64 o.n, .slice o.A o.len o.cap]
def ocs (l : List OpC) : List Value := (l.map oc).flatten
theorem oc_len (o : OpC) : (oc o).length = 3 := rfl
theorem oc_one (o : OpC) : ∀ v ∈ oc o, v.oneCell' = true := by
  intro v hv
  simp only [oc, List.mem_cons, List.not_mem_nil, or_false] at hv
  rcases hv with rfl | rfl | rfl <;> rfl
structure OpOk (w : World) (D : Nat) (o : OpC) : Prop where
  op : (Lit.int .i64 o.op).wf = true
  n : (Lit.int .i64 o.n).wf = true
  le : o.len ≤ o.cap
  max : o.cap ≤ maxLen
  row : Row w D 1 o.A o.len (bytes o.d)
  b8 : B8 o.d
theorem OpOk.below {w w' : World} {D : Nat} {o : OpC} (h : OpOk w D o) (hb : Below D w w') : OpOk w' D o := ⟨h.op, h.n, h.le, h.max, h.row.below hb, h.b8⟩
theorem OpOk.len {w : World} {D : Nat} {o : OpC} (h : OpOk w D o) : o.d.length = o.len := by have := h.row.len; rw [bytes_len] at this; omega
/-- a slice of ops -/
structure Ops (w : World) (D : Nat) (A : Option Addr) (n : Nat) (l : List OpC) : Prop where
  row : Row w D 3 A n (ocs l)
  len : l.length = n
  each : ∀ o ∈ l, OpOk w D o
theorem Ops.below {w w' : World} {D n : Nat} {A : Option Addr} {l : List OpC} (h : Ops w D A n l) (hb : Below D w w') : Ops w' D A n l := ⟨h.row.below hb, h.len, fun o ho => (h.each o ho).below hb⟩
theorem Ops.nil (w : World) (D : Nat) (A : Option Addr) : Ops w D A 0 [] := ⟨Row.nil _ _ _ _, rfl, fun o ho => absurd ho List.not_mem_nil⟩
theorem ocs_at {l : List OpC} {i : Nat} {o : OpC} (h : l[i]? = some o) : ((ocs l).drop (i * 3)).take 3 = oc o := by
  unfold ocs
  exact flat_at (fun x hx => by obtain ⟨o, _, rfl⟩ := List.mem_map.1 hx; rfl) (by rw [List.getElem?_map, h]; rfl)
theorem Ops.get {w : World} {D n i : Nat} {A : Option Addr} {l : List OpC} (h : Ops w D A n l) (hi : i < n) :
    ∃ g q o, A = some ⟨g, q, none⟩ ∧ g < D ∧ Hid (l[i]? = some o) ∧ Hid (w.rangeAt g (q + i * 3) (oc o)) ∧ Hid (OpOk w D o) := by
  obtain ⟨g, q, e1, e2, e3⟩ := h.row.elem hi
  obtain ⟨o, ho⟩ : ∃ o, l[i]? = some o := ⟨_, List.getElem?_eq_getElem (by rw [h.len]; exact hi)⟩
  rw [ocs_at ho] at e3
  exact ⟨g, q, o, e1, e2, ho, e3, h.each o (List.mem_of_getElem? ho)⟩
/-- a coin, and where its lock lies -/
structure CoC where
  tx : List Nat
  at_ : Int
  amt : Int
  A : Option Addr
  len : Nat
  cap : Nat
  ops : List OpC
  h : Int
def placeC (c : CoC) : List Value := bytes c.tx ++ [.int .i64 c.at_]
def outC (c : CoC) : List Value := [.int .i64 c.amt, .slice c.A c.len c.cap]
def coc (c : CoC) : List Value := bytes c.tx ++ [.int .i64 c.at_, .int .i64 c.amt, .slice c.A c.len c.cap, .int .i64 c.h]
def cocs (l : List CoC) : List Value := (l.map coc).flatten
structure CoOk (w : World) (D : Nat) (c : CoC) : Prop where
  tx : c.tx.length = 32
  b8 : B8 c.tx
  at_ : (Lit.int .i64 c.at_).wf = true
  amt : (Lit.int .i64 c.amt).wf = true
  h : (Lit.int .i64 c.h).wf = true
  le : c.len ≤ c.cap
  max : c.cap ≤ maxLen
  ops : Ops w D c.A c.len c.ops
theorem CoOk.below {w w' : World} {D : Nat} {c : CoC} (h : CoOk w D c) (hb : Below D w w') : CoOk w' D c := ⟨h.tx, h.b8, h.at_, h.amt, h.h, h.le, h.max, h.ops.below hb⟩
theorem coc_len {c : CoC} (h : c.tx.length = 32) : (coc c).length = 36 := by simp [coc, bytes, up, h]
theorem coc_one (c : CoC) : ∀ v ∈ coc c, v.oneCell' = true := by
  intro v hv
  rcases List.mem_append.1 hv with hv | hv
  · exact bytes_one _ v hv
  · simp only [List.mem_cons, List.not_mem_nil, or_false] at hv
    rcases hv with rfl | rfl | rfl | rfl <;> rfl
structure Coins (w : World) (D : Nat) (A : Option Addr) (n : Nat) (l : List CoC) : Prop where
  row : Row w D 36 A n (cocs l)
  len : l.length = n
  each : ∀ c ∈ l, CoOk w D c
theorem Coins.below {w w' : World} {D n : Nat} {A : Option Addr} {l : List CoC} (h : Coins w D A n l) (hb : Below D w w') : Coins w' D A n l := ⟨h.row.below hb, h.len, fun o ho => (h.each o ho).below hb⟩
theorem cocs_at {l : List CoC} (h : ∀ c ∈ l, c.tx.length = 32) {i : Nat} {c : CoC} (hc : l[i]? = some c) : ((cocs l).drop (i * 36)).take 36 = coc c := by
  unfold cocs
  exact flat_at (fun x hx => by obtain ⟨o, ho, rfl⟩ := List.mem_map.1 hx; exact coc_len (h o ho)) (by rw [List.getElem?_map, hc]; rfl)
theorem Coins.get {w : World} {D n i : Nat} {A : Option Addr} {l : List CoC} (h : Coins w D A n l) (hi : i < n) :
    ∃ g q c, A = some ⟨g, q, none⟩ ∧ g < D ∧ Hid (l[i]? = some c) ∧ Hid (w.rangeAt g (q + i * 36) (coc c)) ∧ Hid (CoOk w D c) := by
  obtain ⟨g, q, e1, e2, e3⟩ := h.row.elem hi
  obtain ⟨o, ho⟩ : ∃ o, l[i]? = some o := ⟨_, List.getElem?_eq_getElem (by rw [h.len]; exact hi)⟩
  rw [cocs_at (fun c hc => (h.each c hc).tx) ho] at e3
  exact ⟨g, q, o, e1, e2, ho, e3, h.each o (List.mem_of_getElem? ho)⟩
/-! ### what comes in -/
def opSh : Sh := .st 3 (fun i => i) (fun _ => 1) (fun i => if i = 2 then .slice 1 (.int .u8) else .int .i64)
def placeSh : Sh := .st 2 (fun i => if i = 1 then 32 else 0) (fun i => if i = 1 then 1 else 32) (fun i => if i = 1 then .int .i64 else .arr 32 1 (.int .u8))
def outSh : Sh := .st 2 (fun i => i) (fun _ => 1) (fun i => if i = 1 then .slice 3 opSh else .int .i64)
def coinSh : Sh := .st 3 (fun i => if i = 0 then 0 else if i = 1 then 33 else 35) (fun i => if i = 0 then 33 else if i = 1 then 2 else 1) (fun i => if i = 0 then placeSh else if i = 1 then outSh else .int .i64)
theorem opSh_is : opSh.is Tryd.prog 54 := by
  refine ⟨_, Tryd.underlying54, by kernel_rfl, fun i hi => ?_⟩
  match i, hi with
  | 0, _ => exact ⟨_, rfl, by kernel_rfl, by kernel_rfl, Tryd.underlying3⟩
  | 1, _ => exact ⟨_, rfl, by kernel_rfl, by kernel_rfl, Tryd.underlying3⟩
  | 2, _ => exact ⟨_, rfl, by kernel_rfl, by kernel_rfl, by decide, _, Tryd.underlying37, by kernel_rfl, Tryd.underlying5⟩
theorem placeSh_is : placeSh.is Tryd.prog 84 := by
  refine ⟨_, Tryd.underlying84, by kernel_rfl, fun i hi => ?_⟩
  match i, hi with
  | 0, _ => exact ⟨_, rfl, by kernel_rfl, by kernel_rfl, by kernel_rfl, _, Tryd.underlying23, by kernel_rfl, Tryd.underlying5⟩
  | 1, _ => exact ⟨_, rfl, by kernel_rfl, by kernel_rfl, Tryd.underlying3⟩
theorem outSh_is : outSh.is Tryd.prog 31 := by
  refine ⟨_, Tryd.underlying31, by kernel_rfl, fun i hi => ?_⟩
  match i, hi with
  | 0, _ => exact ⟨_, rfl, by kernel_rfl, by kernel_rfl, Tryd.underlying3⟩
  | 1, _ => exact ⟨_, rfl, by kernel_rfl, by kernel_rfl, by decide, _, Tryd.underlying28, by kernel_rfl, opSh_is⟩
theorem coinSh_is : coinSh.is Tryd.prog 86 := by
  refine ⟨_, Tryd.underlying86, by kernel_rfl, fun i hi => ?_⟩
  match i, hi with
  | 0, _ => exact ⟨_, rfl, by kernel_rfl, by kernel_rfl, placeSh_is⟩
  | 1, _ => exact ⟨_, rfl, by kernel_rfl, by kernel_rfl, outSh_is⟩
  | 2, _ => exact ⟨_, rfl, by kernel_rfl, by kernel_rfl, Tryd.underlying3⟩
/-- a row of elements whose shape gives one each -/
theorem each_of {α : Type} {s : Nat} (enc : α → List Value) (P : α → Prop) : ∀ (n : Nat) (es : List Value), es.length = n * s → (∀ i, i < n → ∃ b : α, (es.drop (i * s)).take s = enc b ∧ P b) →
    ∃ bs : List α, es = (bs.map enc).flatten ∧ bs.length = n ∧ ∀ b ∈ bs, P b
  | 0, es, he, _ => ⟨[], by simpa using he, rfl, by simp⟩
  | n + 1, es, he, hh => by
    obtain ⟨b, e1, e2⟩ := hh 0 (by omega)
    rw [Nat.succ_mul] at he
    obtain ⟨bs, g1, g2, g3⟩ := each_of (s := s) enc P n (es.drop s) (by rw [List.length_drop]; omega) (fun i hi => by
      obtain ⟨b, q1, q2⟩ := hh (i + 1) (by omega)
      exact ⟨b, by rw [List.drop_drop, show s + i * s = (i + 1) * s by rw [Nat.succ_mul]; omega]; exact q1, q2⟩)
    refine ⟨b :: bs, ?_, by simp [g2], ?_⟩
    · rw [List.map_cons, List.flatten_cons, ← g1, ← e1, Nat.zero_mul, List.drop_zero, List.take_append_drop]
    · intro x hx
      rcases List.mem_cons.1 hx with rfl | hx
      · exact e2
      · exact g3 x hx
theorem cut1 (cs : List Value) (i : Nat) (h : i < cs.length) : (cs.drop i).take 1 = [cs[i]] := by rw [List.drop_eq_getElem_cons h]; rfl
theorem op_of {w : World} {D m : Nat} {cs : List Value} (hl : cs.length = 3) (h : opSh.ok w D m cs) : ∃ o : OpC, cs = oc o ∧ OpOk w D o := by
  obtain ⟨f, _, h2⟩ := h
  have p0 := h2 0 (by decide)
  have p1 := h2 1 (by decide)
  have p2 := h2 2 (by decide)
  have p0' : Sh.ok w D (.int .i64) (f 0) [cs[0]] := by rw [← cut1 cs 0 (by omega)]; exact p0
  have p1' : Sh.ok w D (.int .i64) (f 1) [cs[1]] := by rw [← cut1 cs 1 (by omega)]; exact p1
  have p2' : Sh.ok w D (.slice 1 (.int .u8)) (f 2) [cs[2]] := by rw [← cut1 cs 2 (by omega)]; exact p2
  obtain ⟨_, x, hx, hxw⟩ := p0'
  obtain ⟨_, y, hy, hyw⟩ := p1'
  obtain ⟨A, n, c, l, hv, g1, g2, g3, g4, _⟩ := Sh.ints p2'
  obtain ⟨d, rfl, d8⟩ := nats_of g4
  injection hx with hx
  injection hy with hy
  refine ⟨⟨x, y, A, n, c, d⟩, ?_, hxw, hyw, g1, g2, g3, d8⟩
  obtain ⟨a, b, e, rfl⟩ : ∃ a b e, cs = [a, b, e] := by
    match cs, hl with
    | [a, b, e], _ => exact ⟨a, b, e, rfl⟩
  simp only [List.getElem_cons_zero, List.getElem_cons_succ] at hx hy hv
  rw [hx, hy, hv]; rfl
theorem Sh.opsOf {w : World} {D m : Nat} {v : Value} (h : (Sh.slice 3 opSh).ok w D m [v]) : ∃ (A : Option Addr) (n c : Nat) (l : List OpC), v = .slice A n c ∧ n ≤ c ∧ c ≤ maxLen ∧ Ops w D A n l := by
  obtain ⟨A, n, c, es, f, hv, h1, h2, h3, h4, h5⟩ := h
  obtain ⟨l, g1, g2, g3⟩ := each_of oc (OpOk w D) n es h3.len (fun i hi => op_of (by rw [List.length_take, List.length_drop, h3.len]; omega) (h5 i hi))
  subst g1
  exact ⟨A, n, c, l, by simpa using hv, h1, h2, h3, g2, g3⟩
theorem coin_of {w : World} {D m : Nat} {cs : List Value} (hl : cs.length = 36) (h : coinSh.ok w D m cs) : ∃ c : CoC, cs = coc c ∧ CoOk w D c := by
  obtain ⟨f, _, h2⟩ := h
  have p0 : placeSh.ok w D (f 0) (cs.take 33) := h2 0 (by decide)
  have p1 : outSh.ok w D (f 1) ((cs.drop 33).take 2) := h2 1 (by decide)
  have p2 := h2 2 (by decide)
  have p2' : Sh.ok w D (.int .i64) (f 2) [cs[35]] := by rw [← cut1 cs 35 (by omega)]; exact p2
  obtain ⟨f0, _, q0⟩ := p0
  obtain ⟨f1, _, q1⟩ := p1
  have a0 : Sh.ok w D (.arr 32 1 (.int .u8)) (f0 0) (cs.take 32) := by
    have := q0 0 (by decide)
    have e : ((cs.take 33).drop 0).take 32 = cs.take 32 := by rw [List.drop_zero, List.take_take]; rfl
    rw [← e]; exact this
  have a1 : Sh.ok w D (.int .i64) (f0 1) [cs[32]] := by
    have := q0 1 (by decide)
    have e : ((cs.take 33).drop 32).take 1 = [cs[32]] := by
      rw [cut1 _ 32 (by rw [List.length_take]; omega), List.getElem_take]
    rw [← e]; exact this
  have a2 : Sh.ok w D (.int .i64) (f1 0) [cs[33]] := by
    have := q1 0 (by decide)
    have e : (((cs.drop 33).take 2).drop 0).take 1 = [cs[33]] := by
      rw [cut1 _ 0 (by rw [List.length_take, List.length_drop]; omega), List.getElem_take, List.getElem_drop]
    rw [← e]; exact this
  have a3 : Sh.ok w D (.slice 3 opSh) (f1 1) [cs[34]] := by
    have := q1 1 (by decide)
    have e : (((cs.drop 33).take 2).drop 1).take 1 = [cs[34]] := by
      rw [cut1 _ 1 (by rw [List.length_take, List.length_drop]; omega), List.getElem_take, List.getElem_drop]
    rw [← e]; exact this
  obtain ⟨l, hl2, hl3, hlw⟩ := Sh.digest a0
  obtain ⟨s, rfl, s8⟩ := nats_of hlw
  rw [up_len] at hl3
  obtain ⟨_, x, hx, hxw⟩ := a1
  obtain ⟨_, y, hy, hyw⟩ := a2
  obtain ⟨A, n, c, ops, hv, g1, g2, g3⟩ := Sh.opsOf a3
  obtain ⟨_, z, hz, hzw⟩ := p2'
  injection hx with hx
  injection hy with hy
  injection hz with hz
  refine ⟨⟨s, x, y, A, n, c, ops, z⟩, ?_, hl3, s8, hxw, hyw, hzw, g1, g2, g3⟩
  have e1 : cs = cs.take 32 ++ [cs[32], cs[33], cs[34], cs[35]] := by
    conv => lhs; rw [← List.take_append_drop 32 cs]
    congr 1
    rw [List.drop_eq_getElem_cons (by omega), List.drop_eq_getElem_cons (by omega), List.drop_eq_getElem_cons (by omega), List.drop_eq_getElem_cons (by omega), List.drop_of_length_le (by omega)]
  rw [e1, hx, hy, hz, hv, hl2]; rfl
theorem Sh.coins {w : World} {D m : Nat} {v : Value} (h : (Sh.slice 36 coinSh).ok w D m [v]) : ∃ (A : Option Addr) (n c : Nat) (l : List CoC), v = .slice A n c ∧ n ≤ c ∧ c ≤ maxLen ∧ Coins w D A n l := by
  obtain ⟨A, n, c, es, f, hv, h1, h2, h3, h4, h5⟩ := h
  obtain ⟨l, g1, g2, g3⟩ := each_of coc (CoOk w D) n es h3.len (fun i hi => coin_of (by rw [List.length_take, List.length_drop, h3.len]; omega) (h5 i hi))
  subst g1
  exact ⟨A, n, c, l, by simpa using hv, h1, h2, h3, g2, g3⟩
end Go.Proofs.YtibhhbjbfdbmdaaDoor

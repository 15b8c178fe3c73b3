/- Bids that come in; what counts of bids of unlike people. -/
import Derived.Test.YtlaoijnlemgdfaaDoorOpen
import Derived.Test.YtlaoijnlemgdfaaDoorBidAwardW
import Derived.Test.YtlaoijnlemgdfaaDoorNats
import Derived.OpenShut
namespace Go.Proofs.YtlaoijnlemgdfaaDoor
set_option linter.unusedVariables false
open Go.RowKit Go.Mny
def bidSh : Sh := .st 3 (fun i => i) (fun i => if i = 2 then 32 else 1) (fun i => if i = 2 then .arr 32 1 (.int .u8) else .int .i64)
theorem bidSh_is : bidSh.is Tryd.prog 62 := by
  refine ⟨_, Tryd.underlying62, by kernel_rfl, fun i hi => ?_⟩
  match i, hi with
  | 0, _ => exact ⟨_, rfl, by kernel_rfl, by kernel_rfl, Tryd.underlying3⟩
  | 1, _ => exact ⟨_, rfl, by kernel_rfl, by kernel_rfl, Tryd.underlying3⟩
  | 2, _ => exact ⟨_, rfl, by kernel_rfl, by kernel_rfl, by kernel_rfl, _, Tryd.underlying23, by kernel_rfl, Tryd.underlying5⟩
theorem bid_of {w : World} {D m : Nat} {cs : List Value} (hl : cs.length = 34) (h : bidSh.ok w D m cs) : ∃ b : Bd, cs = bc b ∧ BdOk b := by
  obtain ⟨f, _, h2⟩ := h
  have p0 := h2 0 (by decide)
  have p1 := h2 1 (by decide)
  have p2 := h2 2 (by decide)
  have c0 : (cs.drop 0).take 1 = [cs[0]] := by rw [List.drop_eq_getElem_cons (by omega)]; rfl
  have c1 : (cs.drop 1).take 1 = [cs[1]] := by rw [List.drop_eq_getElem_cons (by omega)]; rfl
  have c2 : (cs.drop 2).take 32 = cs.drop 2 := List.take_of_length_le (by rw [List.length_drop]; omega)
  have p0' : Sh.ok w D (.int .i64) (f 0) [cs[0]] := by rw [← c0]; exact p0
  have p1' : Sh.ok w D (.int .i64) (f 1) [cs[1]] := by rw [← c1]; exact p1
  have p2' : Sh.ok w D (.arr 32 1 (.int .u8)) (f 2) (cs.drop 2) := by rw [← c2]; exact p2
  obtain ⟨_, x, hx, hxw⟩ := p0'
  obtain ⟨_, y, hy, hyw⟩ := p1'
  obtain ⟨l, hl2, hl3, hlw⟩ := Sh.digest p2'
  obtain ⟨s, rfl, s8⟩ := nats_of hlw
  rw [up_len] at hl3
  injection hx with hx
  injection hy with hy
  refine ⟨⟨x, y, s⟩, ?_, hl3, s8, hxw, hyw⟩
  have e1 : cs = cs[0] :: cs[1] :: cs.drop 2 := by
    rw [List.getElem_cons_drop, List.getElem_cons_drop, List.drop_zero]
  rw [e1, hx, hy, hl2]; rfl
theorem Sh.bids {w : World} {D m : Nat} {v : Value} (h : (Sh.slice 34 bidSh).ok w D m [v]) :
    ∃ (A : Option Addr) (n c : Nat) (bs : List Bd), v = .slice A n c ∧ n ≤ c ∧ Row w D 34 A n (bs.map bc).flatten ∧ bs.length = n ∧ (∀ b ∈ bs, BdOk b) ∧ n + 1 ≤ m := by
  obtain ⟨A, n, c, es, f, hv, h1, h2, h3, h4, h5⟩ := h
  have key : ∀ (n : Nat) (es : List Value), es.length = n * 34 → (∀ i, i < n → ∃ b : Bd, (es.drop (i * 34)).take 34 = bc b ∧ BdOk b) →
      ∃ bs : List Bd, es = (bs.map bc).flatten ∧ bs.length = n ∧ ∀ b ∈ bs, BdOk b := by
    intro n
    induction n with
    | zero => intro es he _; exact ⟨[], by simpa using he, rfl, by simp⟩
    | succ n ih =>
      intro es he hh
      obtain ⟨b, e1, e2⟩ := hh 0 (by omega)
      obtain ⟨bs, g1, g2, g3⟩ := ih (es.drop 34) (by rw [List.length_drop]; omega) (fun i hi => by
        obtain ⟨b, q1, q2⟩ := hh (i + 1) (by omega)
        exact ⟨b, by rw [List.drop_drop, show 34 + i * 34 = (i + 1) * 34 by omega]; exact q1, q2⟩)
      refine ⟨b :: bs, ?_, by simp [g2], ?_⟩
      · rw [List.map_cons, List.flatten_cons, ← g1, ← e1, Nat.zero_mul, List.drop_zero, List.take_append_drop]
      · intro x hx
        rcases List.mem_cons.1 hx with rfl | hx
        · exact e2
        · exact g3 x hx
  obtain ⟨bs, g1, g2, g3⟩ := key n es h3.len (fun i hi => bid_of (by rw [List.length_take, List.length_drop, h3.len]; omega) (h5 i hi))
  have hn : n ≤ sumTo f n := sumTo_ones n (fun i hi => Sh.one (h5 i hi))
  subst g1
  exact ⟨A, n, c, bs, by simpa using hv, h1, h3, g2, g3, by omega⟩
theorem cnts_filter (Vs : List (List Int)) : ∀ (bs cs : List Bd), (bs.map (·.who)).Nodup → (∀ b ∈ bs, ∀ c ∈ cs, c.who ≠ b.who) → bs.foldl (cstep Vs) cs = cs ++ bs.filter (fun b => decide (okB Vs b))
  | [], cs, _, _ => by simp
  | b :: bs, cs, h2, h3 => by
    rw [List.map_cons, List.nodup_cons] at h2
    have hno : ¬ ∃ c ∈ cs, c.who = b.who := fun ⟨c, hc, e⟩ => h3 b (by simp) c hc e
    rw [List.foldl_cons]
    by_cases ho : okB Vs b
    · have hs : cstep Vs cs b = cs ++ [b] := by unfold cstep; rw [if_pos ⟨ho, hno⟩]
      rw [hs, cnts_filter Vs bs (cs ++ [b]) h2.2 (fun x hx c hc => ?_), List.filter_cons_of_pos (by simpa using ho)]
      · simp
      · rcases List.mem_append.1 hc with hc | hc
        · exact h3 x (by simp [hx]) c hc
        · rw [List.mem_singleton] at hc
          rw [hc]
          intro e
          exact h2.1 (by rw [e]; exact List.mem_map.2 ⟨x, hx, rfl⟩)
    · have hs : cstep Vs cs b = cs := by unfold cstep; rw [if_neg (fun h => ho h.1)]
      rw [hs, cnts_filter Vs bs cs h2.2 (fun x hx c hc => h3 x (by simp [hx]) c hc), List.filter_cons_of_neg (by simpa using ho)]
end Go.Proofs.YtlaoijnlemgdfaaDoor

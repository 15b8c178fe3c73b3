/- Walks of money.Check, Sum, Add. -/
import Derived.Test.YtibhhbjbfdbmdaaDoorProg
import Derived.Test.YtibhhbjbfdbmdaaDoorBase
import Derived.Test.YtibhhbjbfdbmdaaDoorMoneyMath
namespace Go.Proofs.YtibhhbjbfdbmdaaDoor
open Go.RowKit Go.Mny
theorem check_ok (n : Int) (w : World) (h0 : 0 ≤ n) (h1 : n ≤ 1125899906842624) :
    Calls Tryd.prog 59 #[.int .i64 n] w fun e w' => e = .returned .nilIface ∧ w = w' := by
  go_enter Tryd.func59, Tryd.ntmps59
  go_wp2
  go_ret
  exact ⟨rfl, rfl⟩
theorem check_err (n : Int) (w : World) (h : n < 0 ∨ 1125899906842624 < n) :
    Calls Tryd.prog 59 #[.int .i64 n] w fun e w' => e = .returned (.iface 55 (.int .i64 2)) ∧ w = w' := by
  rcases h with h | h
  all_goals
    go_enter Tryd.func59, Tryd.ntmps59
    go_wp2
    go_ret
    exact ⟨rfl, rfl⟩
/-- what an error's number reads as -/
def errV (e : Int) : Value := if e = 0 then .nilIface else .iface 55 (.int .i64 e)
def SumPost (w : World) (l : List Int) (e : Ending) (w' : World) : Prop := e = .returned (.tuple #[.int .i64 (Mon.sumGo 0 l).1, errV (Mon.sumGo 0 l).2]) ∧ w = w'
set_option maxHeartbeats 400000 in
theorem msum_any (A : Option Addr) (n c D : Nat) (l : List Int) (w : World) (h : Row w D 1 A n (l.map (Value.int .i64))) (hn : n ≤ 9223372036854775807) :
    Calls Tryd.prog 61 #[.slice A n c] w (SumPost w l) := by
  have hl := h.length
  have H := hid h
  clear h
  go_enter Tryd.func61, Tryd.ntmps61
  go_wp2
  go_loop [4, 10] (fun v4 v10 => ∃ (k : Nat) (a : Int), k ≤ n ∧ v10 = .int .i64 k ∧ v4 = .int .i64 a ∧ 0 ≤ a ∧ a ≤ 1125899906842624 ∧ Hid (Mon.sumGo 0 l = Mon.sumGo a (l.drop k)))
    (fun _ v10 => n - (intOf v10).toNat)
  case atStart => exact ⟨0, 0, Nat.zero_le _, rfl, rfl, by omega, by omega, rfl⟩
  case round =>
    obtain ⟨k, a, hk, rfl, rfl, ha0, ha1, hs⟩ := hrel
    by_cases hlt : k < n
    · obtain ⟨g, o, x, rfl, hg, hx, hc⟩ := (unhid H).int hlt
      have hd : l.drop k = x :: l.drop (k + 1) := by
        have hk' : k < l.length := by omega
        rw [List.drop_eq_getElem_cons hk']
        have := hx.out
        rw [List.getElem?_eq_getElem hk'] at this
        rw [Option.some.inj this]
      have hs2 := hs.out
      rw [hd] at hs2
      clear hd hs
      by_cases hb : x < 0 ∨ 1125899906842624 < x
      · rw [Mon.sumGo_range _ _ _ hb] at hs2
        have HS := hid hs2
        clear hs2
        go_wp2_with (go_at_call 59; refine (check_err _ _ hb).mono ?_; rintro e w' ⟨rfl, rfl⟩)
        go_ret2
        refine ⟨?_, rfl⟩
        rw [HS.out]; rfl
      · by_cases hf : 1125899906842624 < a + x
        · rw [Mon.sumGo_full _ _ _ hb hf] at hs2
          have HS := hid hs2
          clear hs2
          go_wp2_with (go_at_call 59; refine (check_ok _ _ (by omega) (by omega)).mono ?_; rintro e w' ⟨rfl, rfl⟩)
          go_ret2
          refine ⟨?_, rfl⟩
          rw [HS.out]; rfl
        · rw [Mon.sumGo_next _ _ _ hb hf] at hs2
          have HS := hid hs2
          clear hs2
          go_wp2_with (go_at_call 59; refine (check_ok _ _ (by omega) (by omega)).mono ?_; rintro e w' ⟨rfl, rfl⟩)
          go_round
          case rel => exact ⟨k + 1, a + x, by omega, by go_num, rfl, by omega, by omega, HS.out⟩
          case measure => simp [intOf]; omega
    · have HS : Hid (Mon.sumGo 0 l = (a, 0)) := by
        have := hs.out
        rw [List.drop_of_length_le (by omega)] at this
        exact this
      clear hs
      go_wp2
      go_ret2
      refine ⟨?_, rfl⟩
      rw [HS.out]; rfl
end Go.Proofs.YtibhhbjbfdbmdaaDoor

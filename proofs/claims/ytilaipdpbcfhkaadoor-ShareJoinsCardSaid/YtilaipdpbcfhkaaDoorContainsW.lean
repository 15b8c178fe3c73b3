/- The walks of slices.Index and slices.Contains at bytes. -/
import Derived.Test.YtilaipdpbcfhkaaDoorShr
import Derived.Test.YtilaipdpbcfhkaaDoorProg
namespace Go.Proofs.YtilaipdpbcfhkaaDoor
set_option linter.unusedVariables false
open Go.RowKit Go.Mny
theorem index_any (l : List Nat) (x : Nat) (A : Option Addr) (n c D : Nat) (w : World) (hr : Row w D 1 A n (byt l)) (hn : n ≤ 4611686018427387904) :
    Calls Tryd.prog 35 #[.slice A n c, .int .u8 (x : Int)] w fun e w' => (∃ i : Int, e = .returned (.int .i64 i) ∧ -1 ≤ i ∧ (0 ≤ i ↔ x ∈ l)) ∧ w = w' := by
  have hl : l.length = n := by have := hr.len; rw [byt_len] at this; omega
  have HR := hid hr; have HL := hid hl
  clear hr hl
  go_enter Tryd.func35, Tryd.ntmps35
  go_wp2_with fail
  go_loop [8] (fun v => ∃ i : Nat, i ≤ n ∧ v = .int .i64 i ∧ Hid (∀ j, j < i → l[j]? ≠ some x)) (fun v => n - (intOf v).toNat)
  case atStart => exact ⟨0, Nat.zero_le _, rfl, fun j hj => absurd hj (Nat.not_lt_zero j)⟩
  case round =>
    obtain ⟨i, hi, rfl, HE⟩ := hrel
    by_cases hlt : i < n
    · obtain ⟨g, o, y, rfl, hg, hy, hc⟩ := (unhid HR).byte hlt
      have i1 : (0 : Int) ≤ (i : Int) := by omega
      have i2 : (i : Int) < (n : Int) := by omega
      have HY := hid hy
      clear hy
      by_cases hxy : x = y
      · have he : ((x : Int) == (y : Int)) = true := by simp; omega
        have he2 : ((y : Int) == (x : Int)) = true := by simp; omega
        have HX := hid hxy
        clear hxy
        go_wp2_with fail
        go_ret
        exact ⟨⟨i, rfl, by omega, ⟨fun _ => by rw [HX.out]; exact List.mem_of_getElem? HY.out, fun _ => i1⟩⟩, rfl⟩
      · have he : ((x : Int) == (y : Int)) = false := by simp; omega
        have he2 : ((y : Int) == (x : Int)) = false := by simp; omega
        have HX := hid hxy
        clear hxy
        go_wp2_with fail
        go_round
        case rel => exact ⟨i + 1, by omega, by go_num, fun j hj => by
          by_cases h : j = i
          · subst h; rw [HY.out]; intro e; exact HX.out (Option.some.inj e).symm
          · exact HE.out j (by omega)⟩
        case measure => simp [intOf]; omega
    · have i2 : ¬ (i : Int) < (n : Int) := by omega
      have hnot : x ∉ l := fun h => by
        obtain ⟨j, hj, e⟩ := List.getElem_of_mem h
        exact HE.out j (by have := HL.out; omega) (by rw [List.getElem?_eq_getElem hj, e])
      have HN := hid hnot
      clear hnot
      go_wp2_with fail
      go_ret
      exact ⟨⟨-1, rfl, by decide, ⟨fun h => absurd h (by decide), fun h => absurd h HN.out⟩⟩, rfl⟩
theorem contains_any (l : List Nat) (x : Nat) (A : Option Addr) (n c D : Nat) (w : World) (hr : Row w D 1 A n (byt l)) (hn : n ≤ 4611686018427387904) :
    Calls Tryd.prog 31 #[.slice A n c, .int .u8 (x : Int)] w fun e w' => e = .returned (.bool (decide (x ∈ l))) ∧ w = w' := by
  have C := hid (index_any l x A n c D w hr hn)
  clear hr
  go_enter Tryd.func31, Tryd.ntmps31
  go_wp2_with fail
  refine (unhid C).mono ?_
  rintro e w' ⟨⟨i, rfl, hi, hx⟩, rfl⟩
  have HX := hid hx
  clear hx
  go_wp2_with fail
  go_ret
  refine ⟨?_, rfl⟩
  have : decide (0 ≤ i) = decide (x ∈ l) := by simp [HX.out]
  rw [← this]; rfl
end Go.Proofs.YtilaipdpbcfhkaaDoor

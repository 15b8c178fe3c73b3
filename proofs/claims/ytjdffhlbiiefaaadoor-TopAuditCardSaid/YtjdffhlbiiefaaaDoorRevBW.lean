/- The walk of slices.Reverse at bools. -/
import Derived.Test.YtjdffhlbiiefaaaDoorRevMath
import Derived.Test.YtjdffhlbiiefaaaDoorMake
import Derived.Test.YtjdffhlbiiefaaaDoorShaOfW
namespace Go.Proofs.YtjdffhlbiiefaaaDoor
set_option linter.unusedVariables false
open Go.RowKit Go.Mny
def bv (bs : List Bool) : List Value := bs.map Value.bool
theorem bv_set (bs : List Bool) (i : Nat) (b : Bool) : (bv bs).set i (.bool b) = bv (bs.set i b) := by simp [bv, List.map_set]
theorem boolsE : Elt Tryd.prog 55 4 1 1 := Elt.of Tryd.underlying55 (.bool false) (by kernel_rfl) rfl (by decide)
def RevBP (w : World) (B : Nat) (A : Option Addr) (n c : Nat) (bs : List Bool) (en : Ending) (w' : World) : Prop := en = .returned (.tuple #[]) ∧ Own w' B 4 1 A n c (bv bs) ∧ Below B w w'
set_option maxHeartbeats 4000000 in
set_option maxRecDepth 100000 in
theorem reverseB_any (bs : List Bool) (A : Option Addr) (n c B : Nat) (w : World) (hl : bs.length = n) (hn : n ≤ 256) (hown : Own w B 4 1 A n c (bv bs)) :
    Calls Tryd.prog 29 #[.slice A n c] w (RevBP w B A n c bs.reverse) := by
  have HL := hid hl; have HOWN := hid hown
  clear hl hown
  by_cases h0 : n = 0
  · subst h0
    have : bs = [] := List.eq_nil_of_length_eq_zero HL.out
    subst this
    go_enter Tryd.func29, Tryd.ntmps29
    go_wp2_with fail
    refine wp_loop_rounds 1 ?_
    rw [rounds_succ]
    go_wp2_with fail
    exact bodyPost_end (results_none rfl _ _ _) rfl ⟨rfl, unhid HOWN, Below.refl _ _⟩
  · obtain ⟨g, cur, rfl, hBg, _⟩ := (unhid HOWN).blk (by omega)
    go_enter Tryd.func29, Tryd.ntmps29
    go_wp2_with fail
    go_loopw [2, 3] (fun v2 v3 wr => ∃ k : Nat, k < n ∧ v2 = .int .i64 (k : Int) ∧ v3 = .int .i64 ((n : Int) - 1 - (k : Int)) ∧ Hid (Own wr B 4 1 (some ⟨g, 0, none⟩) n c (bv (Rev.swp false bs k))) ∧ Hid (Below B w wr)) (fun v2 _ _ => n - (intOf v2).toNat)
    case atStart => exact ⟨0, by omega, rfl, by simp, by rw [Rev.swp_zero]; exact HOWN, Below.refl _ _⟩
    case round =>
      obtain ⟨k, hk, rfl, rfl, HW, HB⟩ := hrel
      by_cases h2 : 2 * k + 1 < n
      · obtain ⟨q, hq⟩ : ∃ q, q = n - 1 - k := ⟨_, rfl⟩
        have hqi : (n : Int) - 1 - (k : Int) = (q : Int) := by omega
        have hkq : k < q := by omega
        have hqn : q < n := by omega
        obtain ⟨x, hx⟩ : ∃ x, bs[q]? = some x := ⟨_, List.getElem?_eq_getElem (by rw [HL.out]; exact hqn)⟩
        obtain ⟨y, hy⟩ : ∃ y, bs[k]? = some y := ⟨_, List.getElem?_eq_getElem (by rw [HL.out]; exact hk)⟩
        have X1 : (Rev.swp false bs k)[q]? = some x := by rw [Rev.swp_mid false bs k q (by omega) (by rw [HL.out]; omega), hx]
        have Y1 : (Rev.swp false bs k)[k]? = some y := by rw [Rev.swp_mid false bs k k (by omega) (by rw [HL.out]; omega), hy]
        have HS : Hid (((Rev.swp false bs k).set k x).set q y = Rev.swp false bs (k + 1)) := by
          have := Rev.swp_step false bs k (by rw [HL.out]; exact h2) x y (by rw [HL.out, ← hq]; exact hx) hy
          rw [HL.out, ← hq] at this
          exact this
        obtain ⟨cx, fx⟩ := (unhid HW).get1 hqn
        obtain ⟨cy, fy⟩ := (unhid HW).get1 hk
        have cx2 : wr.cell? ⟨g, q, none⟩ = some (.bool x) := by rw [cx]; unfold bv; rw [List.getElem?_map, X1]; rfl
        have cy2 : wr.cell? ⟨g, k, none⟩ = some (.bool y) := by rw [cy]; unfold bv; rw [List.getElem?_map, Y1]; rfl
        have o1 := ((unhid HW).drew.set1 hk (.bool x))
        have o2 := (o1.2.1.set1 hqn (.bool y))
        have O2 := hid o2.2.1
        have hgl : B ≤ wr.drew.heap.size := by have := (unhid HW).from_ g rfl; show B ≤ wr.heap.size; omega
        have H2 := hid (Below.grown (Below.grown (unhid HB).drew o1.2.2 hgl (fun q hq => by injection hq with hq; omega)) o2.2.2 (by simpa using hgl) (fun q hq => by injection hq with hq; omega))
        have hql : (q : Int) < (n : Int) := by omega
        have hkl : (k : Int) < (n : Int) := by omega
        have hkq' : (k : Int) < (q : Int) := by omega
        have hne : ¬ ((q : Nat) = k) := by omega
        rw [hqi]
        have HQI := hid hqi
        clear hqi hq hx hy h2 cx cy o1 o2 hgl X1 Y1
        go_wp2_with fail
        go_region
        all_goals
          go_wp2_with fail
          go_roundw
          case rel => exact ⟨k + 1, by omega, by go_num, by rw [← HQI.out]; go_num, by rw [← HS.out, ← bv_set, ← bv_set]; exact O2, H2⟩
          case measure => simp [intOf]; omega
      · have hE : Hid (Rev.swp false bs k = bs.reverse) := Rev.swp_end false bs k (by rw [HL.out]; omega)
        have hlt : decide ((k : Int) < (n : Int) - 1 - (k : Int)) = false := by simp; omega
        have hlt2 : ¬ ((k : Int) < (n : Int) - 1 - (k : Int)) := by omega
        rw [hE.out] at HW
        go_wp2_with fail
        exact bodyPost_end (results_none rfl _ _ _) rfl ⟨rfl, unhid HW, unhid HB⟩
end Go.Proofs.YtjdffhlbiiefaaaDoor

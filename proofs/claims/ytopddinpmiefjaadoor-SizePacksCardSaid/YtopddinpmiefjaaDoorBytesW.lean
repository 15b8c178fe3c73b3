/- The walk of moneyersame.Bytes: are two lists of bytes the same? -/
import Derived.Test.YtopddinpmiefjaaDoorProg
import Derived.Test.YtopddinpmiefjaaDoorSl
namespace Go.Proofs.YtopddinpmiefjaaDoor
set_option linter.unusedVariables false
open Go.RowKit Go.Mny
def BytesPost (w : World) (l r : List Int) (e : Ending) (w' : World) : Prop := ∃ k, e = .returned (.bool (decide (l = r))) ∧ w.drewN k = w'
set_option maxHeartbeats 1000000 in
set_option maxRecDepth 100000 in
theorem bytes_any (A B : Option Addr) (n c m d D D2 : Nat) (l r : List Int) (w : World) (hA : Row w D 1 A n (l.map (Value.int .u8))) (hB : Row w D2 1 B m (r.map (Value.int .u8))) (hn : n ≤ 4611686018427387904) (hm : m ≤ 4611686018427387904) :
    Calls Tryd.prog 17 #[.slice A n c, .slice B m d] w (BytesPost w l r) := by
  have ll := hA.length
  have lr := hB.length
  have HA := hid hA; have HB := hid hB; clear hA hB
  by_cases hnm : n = m
  · subst hnm
    have LL := hid ll; have LR := hid lr; clear ll lr
    go_enter Tryd.func17, Tryd.ntmps17
    go_wp2
    go_loopw [5] (fun v5 wr => ∃ (k q : Nat), k ≤ n ∧ v5 = .int .i64 k ∧ Hid (wr = w.drewN q) ∧ Hid (∀ j, j < k → l[j]? = r[j]?)) (fun v5 _ => n - (intOf v5).toNat)
    case atStart => exact ⟨0, 0, Nat.zero_le _, rfl, rfl, fun j hj => absurd hj (Nat.not_lt_zero j)⟩
    case round =>
      obtain ⟨k, q, hk, rfl, HW, HE⟩ := hrel
      have hw := HW.out
      subst hw
      by_cases hlt : k < n
      · obtain ⟨ga, oa, x, rfl, hga, hx, hcx⟩ := (unhid HA).int hlt
        obtain ⟨gb, ob, y, rfl, hgb, hy, hcy⟩ := (unhid HB).int hlt
        have i1 : (0 : Int) ≤ (k : Int) := by omega
        have i2 : (k : Int) < (n : Int) := by omega
        by_cases hxy : x = y
        · subst hxy
          go_wp2
          go_quiet (fail)
          go_wp2
          go_roundw
          case rel => exact ⟨k + 1, q + nq, by omega, by go_num, rfl, fun j hj => by
            by_cases h : j = k
            · subst h; rw [hx.out, hy.out]
            · exact HE.out j (by omega)⟩
          case measure => simp [intOf]; omega
        · have hne : (x != y) = true := by simpa using hxy
          have HX := hid hxy; clear hxy
          go_wp2
          go_quiet (fail)
          go_wp2
          go_ret
          have hf : decide (l = r) = false := decide_eq_false (fun h => HX.out (by have := hx.out; rw [h, hy.out] at this; exact (Option.some.inj this).symm))
          exact ⟨q + nq, by rw [hf]; rfl, (World.drewN_drewN _ _ _).symm⟩
      · go_wp2
        go_ret
        have hkn : k = n := by omega
        have ht : decide (l = r) = true := decide_eq_true (List.ext_getElem? fun j => by
          by_cases hj : j < n
          · exact HE.out j (by omega)
          · rw [List.getElem?_eq_none (by rw [LL.out]; omega), List.getElem?_eq_none (by rw [LR.out]; omega)])
        exact ⟨q, by rw [ht]; rfl, rfl⟩
  · have hne : ((n : Int) != (m : Int)) = true := by simp; omega
    have hf := hid (show decide (l = r) = false from decide_eq_false (fun h => by subst h; omega))
    clear hnm ll lr
    go_enter Tryd.func17, Tryd.ntmps17
    go_wp2
    go_ret
    exact ⟨0, by rw [hf.out]; rfl, rfl⟩
end Go.Proofs.YtopddinpmiefjaaDoor

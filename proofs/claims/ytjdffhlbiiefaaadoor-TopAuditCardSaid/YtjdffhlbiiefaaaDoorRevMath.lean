/- Plain laws on turning a list round by exchanging what lies at its ends; no program. -/
namespace Rev
variable {α : Type} (d : α)
/-- k at each end are exchanged -/
def swp (ts : List α) (k : Nat) : List α := (List.range ts.length).map fun q => if q < k ∨ ts.length - k ≤ q then ts.getD (ts.length - 1 - q) d else ts.getD q d
theorem swp_len (ts : List α) (k : Nat) : (swp d ts k).length = ts.length := by simp [swp]
theorem swp_get (ts : List α) (k q : Nat) (h : q < ts.length) : (swp d ts k)[q]? = some (if q < k ∨ ts.length - k ≤ q then ts.getD (ts.length - 1 - q) d else ts.getD q d) := by
  simp [swp, h]
theorem getD_get (ts : List α) (q : Nat) (h : q < ts.length) : ts[q]? = some (ts.getD q d) := by
  rw [List.getD_eq_getElem?_getD, List.getElem?_eq_getElem h]; rfl
theorem swp_zero (ts : List α) : swp d ts 0 = ts := by
  refine List.ext_getElem? fun q => ?_
  by_cases h : q < ts.length
  · rw [swp_get d ts 0 q h, if_neg (by omega), getD_get d ts q h]
  · rw [List.getElem?_eq_none (by rw [swp_len]; omega), List.getElem?_eq_none (by omega)]
theorem swp_end (ts : List α) (k : Nat) (hk : ts.length ≤ 2 * k + 1) : swp d ts k = ts.reverse := by
  refine List.ext_getElem? fun q => ?_
  by_cases h : q < ts.length
  · rw [swp_get d ts k q h, List.getElem?_reverse h, getD_get d ts _ (by omega)]
    split
    · rfl
    · rename_i h2
      congr 2; omega
  · rw [List.getElem?_eq_none (by rw [swp_len]; omega), List.getElem?_eq_none (by rw [List.length_reverse]; omega)]
/-- what lies in the middle is as it was -/
theorem swp_mid (ts : List α) (k q : Nat) (h1 : k ≤ q) (h2 : q < ts.length - k) : (swp d ts k)[q]? = ts[q]? := by
  rw [swp_get d ts k q (by omega), if_neg (by omega), getD_get d ts q (by omega)]
theorem swp_step (ts : List α) (k : Nat) (h : 2 * k + 1 < ts.length) (x y : α) (hx : ts[ts.length - 1 - k]? = some x) (hy : ts[k]? = some y) :
    ((swp d ts k).set k x).set (ts.length - 1 - k) y = swp d ts (k + 1) := by
  rw [getD_get d ts _ (by omega)] at hx hy
  injection hx with hx; injection hy with hy
  refine List.ext_getElem? fun q => ?_
  by_cases h3 : q < ts.length
  · rw [List.getElem?_set, List.getElem?_set, List.length_set, swp_len, swp_get d ts k q h3, swp_get d ts (k + 1) q h3]
    by_cases e1 : ts.length - 1 - k = q
    · rw [if_pos e1, if_pos (by omega), if_pos (by omega), ← hy]
      congr 2; omega
    · rw [if_neg e1]
      by_cases e2 : k = q
      · rw [if_pos e2, if_pos (by omega), if_pos (by omega), ← hx, e2]
      · rw [if_neg e2]
        by_cases e3 : q < k ∨ ts.length - k ≤ q
        · rw [if_pos e3, if_pos (by omega)]
        · rw [if_neg e3, if_neg (by omega)]
  · rw [List.getElem?_eq_none (by rw [List.length_set, List.length_set, swp_len]; omega), List.getElem?_eq_none (by rw [swp_len]; omega)]
theorem swp_step2 (ts : List α) (k : Nat) (h : 2 * k + 1 < ts.length) (x y : α) (hx : ts[ts.length - 1 - k]? = some x) (hy : ts[k]? = some y) :
    ((swp d ts k).set (ts.length - 1 - k) y).set k x = swp d ts (k + 1) := by
  rw [List.set_comm _ _ (by omega)]; exact swp_step d ts k h x y hx hy
end Rev

/- Walks of the reference's Num (four bytes), Put (eight bytes), rounds. -/
import Derived.Test.YtlaoijnlemgdfaaDoorShaOfW
import Derived.Test.YtlaoijnlemgdfaaDoorHand
namespace Go.Proofs.YtlaoijnlemgdfaaDoor
set_option linter.unusedVariables false
open Go.RowKit Go.Mny
theorem word_sum (a b c d : Nat) (ha : a < 256) (hb : b < 256) (hc : c < 256) (hd : d < 256) : Sh2.word a b c d = ((a * 256 + b) * 256 + c) * 256 + d := by
  unfold Sh2.word
  rw [Nat.mod_eq_of_lt (by omega), Nat.mod_eq_of_lt (by omega), Nat.mod_eq_of_lt (by omega)]
  have h1 := Nat.two_pow_add_eq_or_of_lt (i := 24) (b := b * 65536) (by omega) a
  have h2 := Nat.two_pow_add_eq_or_of_lt (i := 16) (b := c * 256) (by omega) (a * 256 + b)
  have h3 := Nat.two_pow_add_eq_or_of_lt (i := 8) (b := d) (by omega) ((a * 256 + b) * 256 + c)
  rw [show a * 16777216 = 2 ^ 24 * a by omega, ← h1, show 2 ^ 24 * a + b * 65536 = 2 ^ 16 * (a * 256 + b) by omega, ← h2, show 2 ^ 16 * (a * 256 + b) + c * 256 = 2 ^ 8 * ((a * 256 + b) * 256 + c) by omega, ← h3]
  omega
def numTo (a b c d : Nat) : Nat → Nat
  | 0 => 0
  | 1 => a
  | 2 => a * 256 + b
  | 3 => (a * 256 + b) * 256 + c
  | _ => ((a * 256 + b) * 256 + c) * 256 + d
set_option maxHeartbeats 1000000 in
theorem num_any (a b c d : Nat) (A : Option Addr) (n' D : Nat) (w : World) (hr : Row w D 1 A 4 (bytes [a, b, c, d])) (ha : a < 256) (hb : b < 256) (hc : c < 256) (hd : d < 256) :
    Calls Tryd.prog 37 #[.slice A 4 n'] w fun e w' => e = .returned (.tuple #[.int .i64 (Sh2.word a b c d : Nat), .bool true]) ∧ w = w' := by
  obtain ⟨g, o, rfl, hg, h⟩ := hr.cells (by decide)
  have c0 : w.cell? ⟨g, o + 0, none⟩ = some (.int .u8 (a : Nat)) := h 0 (by rw [bytes_len]; simp)
  have c1 : w.cell? ⟨g, o + 1, none⟩ = some (.int .u8 (b : Nat)) := h 1 (by rw [bytes_len]; simp)
  have c2 : w.cell? ⟨g, o + 2, none⟩ = some (.int .u8 (c : Nat)) := h 2 (by rw [bytes_len]; simp)
  have c3 : w.cell? ⟨g, o + 3, none⟩ = some (.int .u8 (d : Nat)) := h 3 (by rw [bytes_len]; simp)
  have W := hid (word_sum a b c d ha hb hc hd)
  rw [Nat.add_zero] at c0
  clear h hr
  go_enter Tryd.func37, Tryd.ntmps37
  go_wp2
  go_loop [4, 5] (fun v4 v5 => ∃ k : Nat, k ≤ 4 ∧ v5 = .int .i64 k ∧ v4 = .int .i64 (numTo a b c d k : Nat)) (fun _ v5 => 4 - (intOf v5).toNat)
  case atStart => exact ⟨0, Nat.zero_le _, rfl, rfl⟩
  case round =>
    obtain ⟨k, hk, rfl, rfl⟩ := hrel
    have h5 : k = 0 ∨ k = 1 ∨ k = 2 ∨ k = 3 ∨ k = 4 := by omega
    rcases h5 with rfl | rfl | rfl | rfl | rfl
    · simp only [numTo]
      go_wp2
      go_round
      case rel => exact ⟨1, by omega, rfl, by simp⟩
      case measure => simp [intOf]
    · simp only [numTo]
      go_wp2
      go_round
      case rel => exact ⟨2, by omega, rfl, by simp⟩
      case measure => simp [intOf]
    · simp only [numTo]
      go_wp2
      go_round
      case rel => exact ⟨3, by omega, rfl, by simp⟩
      case measure => simp [intOf]
    · simp only [numTo]
      go_wp2
      go_round
      case rel => exact ⟨4, by omega, rfl, by simp⟩
      case measure => simp [intOf]
    · simp only [numTo]
      go_wp2
      go_ret2
      exact ⟨by rw [W.out]; rfl, rfl⟩
theorem rounds_any (w : World) : Calls Tryd.prog 31 #[] w fun e w' => e = .returned (.slice (some ⟨w.heap.size, 0, none⟩) 64 64) ∧ Blk w' w.heap.size 3 (cellsOf .i64 (up Sh2.K)) ∧ Below w.heap.size w w' := by
  go_enter Tryd.func31, Tryd.ntmps31
  go_wp2
  go_ret
  exact ⟨rfl, Blk.new w 3 (cellsOf .i64 (up Sh2.K)), (Below.refl _ _).alloc (Nat.le_refl _) _⟩
theorem be8_get (x i : Nat) (hi : i < 8) : (Sh2.be8 x)[i]? = some (x / 2 ^ (8 * (7 - i)) % 256) := by
  rw [Sh2.be8, List.getElem?_map, List.getElem?_range hi]; rfl
def zero8 : List Nat := List.replicate 8 0
set_option maxHeartbeats 1000000 in
theorem put8_any (n : Nat) (w : World) (hn : n < 9223372036854775808) :
    Calls Tryd.prog 30 #[.int .i64 n, .int .i64 8] w fun e w' => e = .returned (.tuple #[.slice (some ⟨w.heap.size, 0, none⟩) 8 8, .bool true]) ∧ Blk w' w.heap.size 5 (cellsOf .u8 (up (Sh2.be8 n))) ∧ Below w.heap.size w w' := by
  have hmk : ∀ w, (Instr.makeSlice 24 (.int .i64 8) (.int .i64 8)).run Tryd.prog w = .ok (.slice (some ⟨w.heap.size, 0, none⟩) 8 8) (w.alloc (.cells (cellsOf .u8 (up zero8)) 5)) := fun _ => by kernel_rfl
  go_enter Tryd.func30, Tryd.ntmps30
  go_wp2
  clear hmk
  have B0 := hid (Blk.new w 5 (cellsOf .u8 (up zero8)))
  have E0 := hid ((Below.refl w.heap.size w).alloc (Nat.le_refl _) (.cells (cellsOf .u8 (up zero8)) 5))
  go_loopw [0, 7] (fun v0 v7 wr => ∃ (k N : Nat), k ≤ 8 ∧ N < 9223372036854775808 ∧ Hid (N = n / 2 ^ (8 * (8 - k))) ∧ v0 = .int .i64 N ∧ v7 = .int .i64 ((k : Int) - 1) ∧ Hid (Blk wr w.heap.size 5 (cellsOf .u8 (up (zero8.take k ++ (Sh2.be8 n).drop k)))) ∧ Hid (Below w.heap.size w wr)) (fun _ v7 _ => (intOf v7 + 1).toNat)
  case atStart => exact ⟨8, n, Nat.le_refl _, hn, hid (by simp), rfl, rfl, B0, E0⟩
  case round =>
    obtain ⟨k, N, hk, hN, hNe, rfl, rfl, HB, HE⟩ := hrel
    cases k with
    | succ k =>
      have e1 : (((k + 1 : Nat) : Int) - 1) = (k : Int) := by omega
      rw [e1]
      have hz := be8_get n k (by omega)
      have hset : Hid ((zero8.take (k + 1) ++ (Sh2.be8 n).drop (k + 1)).set k (N % 256) = zero8.take k ++ (Sh2.be8 n).drop k) := hid (by
        have h1 : (Sh2.be8 n).drop k = (N % 256) :: (Sh2.be8 n).drop (k + 1) := by
          rw [List.drop_eq_getElem_cons (by rw [be8_len]; omega)]
          congr 1
          have := List.getElem?_eq_some_iff.1 hz
          obtain ⟨h2, h3⟩ := this
          rw [h3, hNe.out, show 8 - (k + 1) = 7 - k by omega]
        rw [h1, List.take_add_one, show zero8[k]? = some 0 from by rw [zero8, List.getElem?_replicate, if_pos (by omega)]]
        have hl : (zero8.take k).length = k := by rw [List.length_take]; simp [zero8]; omega
        rw [List.append_assoc, List.set_append_right _ _ (by omega), hl, Nat.sub_self]; rfl)
      have hN2 : Hid (N / 256 = n / 2 ^ (8 * (8 - k))) := hid (by
        rw [hNe.out, Nat.div_div_eq_div_mul, show (256 : Nat) = 2 ^ 8 from rfl, ← Nat.pow_add]
        congr 2; omega)
      have c1 : ∃ v, wr.cell? ⟨w.heap.size, k, none⟩ = some v := by
        rw [(unhid HB).cell, cellsOf_get, up_get]
        have : k < (zero8.take (k + 1) ++ (Sh2.be8 n).drop (k + 1)).length := by rw [List.length_append, List.length_take]; simp [zero8]; omega
        rw [List.getElem?_eq_getElem this]; exact ⟨_, rfl⟩
      obtain ⟨v, c1⟩ := c1
      have c2 : wr.frozen? ⟨w.heap.size, k, none⟩ = false := (unhid HB).free k
      have j0 : (0 : Int) ≤ (k : Int) := by omega
      have j1 : (k : Int) < 8 := by omega
      clear e1 hz
      go_wp2
      go_roundw
      case rel =>
        refine ⟨k, N / 256, by omega, by omega, hN2, by simp, rfl, ?_, (unhid HE).setCell (Nat.le_refl _) _⟩
        have := (unhid HB).put k (.int .u8 ((N % 256 : Nat) : Int))
        rw [cellsOf_set, up_set, hset.out] at this
        exact hid this
      case measure => simp [intOf]
    | zero =>
      have hz : N = 0 := by rw [hNe.out]; exact Nat.div_eq_of_lt (by omega)
      subst hz
      have e1 : (((0 : Nat) : Int) - 1) = -1 := by omega
      rw [e1]
      clear e1
      go_wp2
      go_ret2
      exact ⟨rfl, unhid HB, unhid HE⟩
end Go.Proofs.YtlaoijnlemgdfaaDoor

/- SHA-256 on plain numbers. -/
namespace Sh2
def M : Nat := 4294967296
/-- turned to the right by n places -/
def rot (x n : Nat) : Nat := (x * 2 ^ (32 - n) % 4294967296) ||| (x / 2 ^ n)
def tri (x a b c : Nat) : Nat := rot x a ^^^ rot x b ^^^ rot x c
def word (b0 b1 b2 b3 : Nat) : Nat := (((b0 * 16777216 % 4294967296) ||| (b1 * 65536 % 4294967296)) ||| (b2 * 256 % 4294967296)) ||| b3
def sig0 (x : Nat) : Nat := rot x 7 ^^^ rot x 18 ^^^ (x / 8)
def sig1 (y : Nat) : Nat := rot y 17 ^^^ rot y 19 ^^^ (y / 1024)
def add (a b : Nat) : Nat := (a + b) % 4294967296
/-- the first words of a block -/
def firsts (m : List Nat) : List Nat := (List.range 16).map fun t => word (m.getD (4 * t) 0) (m.getD (4 * t + 1) 0) (m.getD (4 * t + 2) 0) (m.getD (4 * t + 3) 0)
def next (w : List Nat) (t : Nat) : Nat := add (add (add (sig1 (w.getD (t - 2) 0)) (w.getD (t - 7) 0)) (sig0 (w.getD (t - 15) 0))) (w.getD (t - 16) 0)
/-- n words more -/
def more (w : List Nat) : Nat → List Nat
  | 0 => w
  | n + 1 => let v := more w n; v ++ [next v v.length]
def words (m : List Nat) : List Nat := more (firsts m) 48
def not (x : Nat) : Nat := 4294967295 - x
def pOf (e f g h k w : Nat) : Nat := add (add (add (add h (tri e 6 11 25)) ((e &&& f) ^^^ (not e &&& g))) k) w
def qOf (a b c : Nat) : Nat := add (tri a 2 13 22) ((a &&& b) ^^^ (a &&& c) ^^^ (b &&& c))
def round (v : List Nat) (k w : Nat) : List Nat :=
  match v with
  | [a, b, c, d, e, f, g, h] => let p := pOf e f g h k w; let q := qOf a b c; [add p q, a, b, c, add d p, e, f, g]
  | v => v
def rounds (ks ws : List Nat) : Nat → List Nat → List Nat
  | 0, v => v
  | n + 1, v => round (rounds ks ws n v) (ks.getD n 0) (ws.getD n 0)
def K : List Nat := [0x428a2f98, 0x71374491, 0xb5c0fbcf, 0xe9b5dba5, 0x3956c25b, 0x59f111f1, 0x923f82a4, 0xab1c5ed5,
  0xd807aa98, 0x12835b01, 0x243185be, 0x550c7dc3, 0x72be5d74, 0x80deb1fe, 0x9bdc06a7, 0xc19bf174,
  0xe49b69c1, 0xefbe4786, 0x0fc19dc6, 0x240ca1cc, 0x2de92c6f, 0x4a7484aa, 0x5cb0a9dc, 0x76f988da,
  0x983e5152, 0xa831c66d, 0xb00327c8, 0xbf597fc7, 0xc6e00bf3, 0xd5a79147, 0x06ca6351, 0x14292967,
  0x27b70a85, 0x2e1b2138, 0x4d2c6dfc, 0x53380d13, 0x650a7354, 0x766a0abb, 0x81c2c92e, 0x92722c85,
  0xa2bfe8a1, 0xa81a664b, 0xc24b8b70, 0xc76c51a3, 0xd192e819, 0xd6990624, 0xf40e3585, 0x106aa070,
  0x19a4c116, 0x1e376c08, 0x2748774c, 0x34b0bcb5, 0x391c0cb3, 0x4ed8aa4a, 0x5b9cca4f, 0x682e6ff3,
  0x748f82ee, 0x78a5636f, 0x84c87814, 0x8cc70208, 0x90befffa, 0xa4506ceb, 0xbef9a3f7, 0xc67178f2]
def H0 : List Nat := [0x6a09e667, 0xbb67ae85, 0x3c6ef372, 0xa54ff53a, 0x510e527f, 0x9b05688c, 0x1f83d9ab, 0x5be0cd19]
def block (s m : List Nat) : List Nat := List.zipWith add (rounds K (words m) 64 s) s
/-- All whole blocks of 64 bytes, one behind the other. -/
def blocks : Nat → List Nat → List Nat → List Nat
  | 0, s, _ => s
  | n + 1, s, m => blocks n (block s m) (m.drop 64)
/-- What is put behind n bytes. -/
def zerosFor (n : Nat) : Nat := (119 - n % 64) % 64
def be8 (x : Nat) : List Nat := (List.range 8).map fun i => x / 2 ^ (8 * (7 - i)) % 256
def pad (n : Nat) : List Nat := 128 :: List.replicate (zerosFor n) 0 ++ be8 (n * 8 % 18446744073709551616)
def out (s : List Nat) : List Nat := (List.range 32).map fun i => s.getD (i / 4) 0 / 2 ^ (24 - 8 * (i % 4)) % 256
def sum (m : List Nat) : List Nat := let t := m ++ pad m.length; out (blocks (t.length / 64) H0 t)
theorem abc : sum [97, 98, 99] = [186, 120, 22, 191, 143, 1, 207, 234, 65, 65, 64, 222, 93, 174, 34, 35, 176, 3, 97, 163, 150, 23, 122, 156, 180, 16, 255, 97, 242, 0, 21, 173] := by decide +kernel
theorem firsts_take (m : List Nat) : firsts (m.take 64) = firsts m := by
  unfold firsts
  refine List.map_congr_left fun t ht => ?_
  have h : t < 16 := by simpa using ht
  have g : ∀ i, i < 64 → (m.take 64).getD i 0 = m.getD i 0 := fun i hi => by simp [hi]
  rw [g _ (by omega), g _ (by omega), g _ (by omega), g _ (by omega)]
theorem block_take (s m : List Nat) : block s (m.take 64) = block s m := by unfold block words; rw [firsts_take]
theorem block_append (s m t : List Nat) (h : 64 ≤ m.length) : block s (m ++ t) = block s m := by
  rw [← block_take s (m ++ t), List.take_append_of_le_length h, block_take]
theorem blocks_add : ∀ (i j : Nat) (s m : List Nat), blocks (i + j) s m = blocks j (blocks i s m) (m.drop (64 * i))
  | 0, j, s, m => by simp [blocks]
  | i + 1, j, s, m => by
    rw [Nat.succ_add]
    simp only [blocks]
    rw [blocks_add i j, List.drop_drop, Nat.mul_succ, Nat.add_comm]
theorem blocks_append : ∀ (k : Nat) (s m t : List Nat), 64 * k ≤ m.length → blocks k s (m ++ t) = blocks k s m
  | 0, _, _, _, _ => rfl
  | k + 1, s, m, t, h => by
    simp only [blocks]
    rw [block_append s m t (by omega), List.drop_append_of_le_length (by omega), blocks_append k _ _ t (by rw [List.length_drop]; omega)]
theorem pad_len (n : Nat) : (pad n).length = 9 + zerosFor n := by simp [pad, be8]; omega
theorem sum_split (m : List Nat) (k : Nat) (hk : 64 * k ≤ m.length) :
    sum m = out (blocks ((m.drop (64 * k) ++ pad m.length).length / 64) (blocks k H0 m) (m.drop (64 * k) ++ pad m.length)) := by
  have e : (m ++ pad m.length).length / 64 = k + (m.drop (64 * k) ++ pad m.length).length / 64 := by
    rw [List.length_append, List.length_append, List.length_drop]; omega
  show out (blocks ((m ++ pad m.length).length / 64) H0 (m ++ pad m.length)) = _
  rw [e, blocks_add, blocks_append k _ _ _ hk, List.drop_append_of_le_length hk]
theorem tail_len (n : Nat) : (n % 64 + (9 + zerosFor n)) % 64 = 0 := by unfold zerosFor; omega
theorem out_len (s : List Nat) : (out s).length = 32 := by simp [out]
theorem out_lt (s : List Nat) : ∀ x ∈ out s, x < 256 := by
  intro x hx; obtain ⟨i, _, rfl⟩ := List.mem_map.1 hx; exact Nat.mod_lt _ (by decide)
theorem sum_len (m : List Nat) : (sum m).length = 32 := out_len _
theorem sum_lt (m : List Nat) : ∀ x ∈ sum m, x < 256 := out_lt _
end Sh2

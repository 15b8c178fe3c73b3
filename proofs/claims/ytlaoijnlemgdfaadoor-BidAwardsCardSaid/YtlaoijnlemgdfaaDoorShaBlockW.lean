/- The walk of sha's block. -/
import Derived.Test.YtlaoijnlemgdfaaDoorShaW
namespace Go.Proofs.YtlaoijnlemgdfaaDoor
set_option linter.unusedVariables false
open Go.RowKit Go.Mny
theorem stateT : ArrI Tryd.prog 99 97 8 .u32 := ⟨Tryd.underlying99, Tryd.underlying97, by kernel_rfl, by kernel_rfl, by kernel_rfl⟩
theorem wordsT : ArrI Tryd.prog 125 97 64 .u32 := ⟨Tryd.underlying125, Tryd.underlying97, by kernel_rfl, by kernel_rfl, by kernel_rfl⟩
theorem wordSize : (Tryd.prog.info? 97).map (·.size) = some 1 := by kernel_rfl
/-- as values are spelt -/
def up (l : List Nat) : List Int := l.map (fun n : Nat => (n : Int))
theorem up_len (l : List Nat) : (up l).length = l.length := by simp [up]
theorem up_get (l : List Nat) (i : Nat) : (up l)[i]? = (l[i]?).map (fun n : Nat => (n : Int)) := by simp [up]
theorem up_set (l : List Nat) (i v : Nat) : (up l).set i (v : Int) = up (l.set i v) := by simp [up]
def B32 (l : List Nat) : Prop := ∀ x ∈ l, x < 4294967296
def B8 (l : List Nat) : Prop := ∀ x ∈ l, x < 256
/-- 64 words of which the first ones are known -/
def pad64 (l : List Nat) : List Nat := l ++ List.replicate (64 - l.length) 0
theorem pad64_len {l : List Nat} (h : l.length ≤ 64) : (pad64 l).length = 64 := by simp [pad64]; omega
theorem pad64_get {l : List Nat} {i : Nat} (h : i < l.length) : (pad64 l)[i]? = l[i]? := by rw [pad64, List.getElem?_append_left h]
theorem pad64_set {l : List Nat} {k : Nat} (hl : l.length = k) (hk : k < 64) (v : Nat) : (pad64 l).set k v = pad64 (l ++ [v]) := by
  subst hl
  unfold pad64
  rw [List.set_append_right _ _ (Nat.le_refl _), Nat.sub_self, show 64 - l.length = (64 - (l ++ [v]).length) + 1 by simp; omega, List.replicate_succ, List.set_cons_zero, List.append_assoc]; rfl
theorem word_bits (a b c d : Nat) (ha : a < 256) (hb : b < 256) (hc : c < 256) (hd : d < 256) :
    bits .or .u32 (bits .or .u32 (bits .or .u32 ((a : Int) * 16777216 % 4294967296) ((b : Int) * 65536 % 4294967296)) ((c : Int) * 256 % 4294967296)) (d : Int) = (Sh2.word a b c d : Nat) := by
  have l1 : a * 16777216 % 4294967296 < 4294967296 := Nat.mod_lt _ (by decide)
  have l2 : b * 65536 % 4294967296 < 4294967296 := Nat.mod_lt _ (by decide)
  have l3 : c * 256 % 4294967296 < 4294967296 := Nat.mod_lt _ (by decide)
  have e1 := u32_or _ _ l1 l2
  have e2 := u32_or _ _ (or_lt32 _ _ l1 l2) l3
  have e3 := u32_or _ d (or_lt32 _ _ (or_lt32 _ _ l1 l2) l3) (by omega)
  unfold Sh2.word
  rw [← e3, ← e2, ← e1]; rfl
theorem word_lt (a b c d : Nat) (hd : d < 256) : Sh2.word a b c d < 4294967296 :=
  or_lt32 _ _ (or_lt32 _ _ (or_lt32 _ _ (Nat.mod_lt _ (by decide)) (Nat.mod_lt _ (by decide))) (Nat.mod_lt _ (by decide))) (by omega)
def firstsTo (m : List Nat) (k : Nat) : List Nat := (Sh2.firsts m).take k
theorem firsts_len (m : List Nat) : (Sh2.firsts m).length = 16 := by simp [Sh2.firsts]
theorem firstsTo_len (m : List Nat) {k : Nat} (hk : k ≤ 16) : (firstsTo m k).length = k := by rw [firstsTo, List.length_take, firsts_len]; omega
theorem firstsTo_step (m : List Nat) {k : Nat} (hk : k < 16) {a b c d : Nat} (h0 : m[4 * k]? = some a) (h1 : m[4 * k + 1]? = some b) (h2 : m[4 * k + 2]? = some c) (h3 : m[4 * k + 3]? = some d) : firstsTo m k ++ [Sh2.word a b c d] = firstsTo m (k + 1) := by
  unfold firstsTo
  have hl : k < (Sh2.firsts m).length := by rw [firsts_len]; exact hk
  rw [List.take_succ_eq_append_getElem hl]
  congr 2
  simp only [Sh2.firsts, List.getElem_map, List.getElem_range, List.getD_eq_getElem?_getD, h0, h1, h2, h3, Option.getD_some]
theorem firsts_b32 (m : List Nat) (h : B8 m) : B32 (Sh2.firsts m) := by
  intro x hx
  simp only [Sh2.firsts, List.mem_map] at hx
  obtain ⟨t, _, rfl⟩ := hx
  refine word_lt _ _ _ _ ?_
  rw [List.getD_eq_getElem?_getD]
  cases e : m[4 * t + 3]? with
  | none => simp
  | some z => exact h z (List.mem_of_getElem? e)
theorem add_lt (a b : Nat) : Sh2.add a b < 4294967296 := Nat.mod_lt _ (by decide)
theorem more_ok (f : List Nat) (hl : f.length = 16) (h : B32 f) : ∀ j, (Sh2.more f j).length = 16 + j ∧ B32 (Sh2.more f j)
  | 0 => ⟨hl, h⟩
  | j + 1 => by
    obtain ⟨h1, h2⟩ := more_ok f hl h j
    simp only [Sh2.more]
    refine ⟨by rw [List.length_append, h1]; simp; omega, fun x hx => ?_⟩
    rcases List.mem_append.1 hx with hx | hx
    · exact h2 x hx
    · rw [List.mem_singleton] at hx; subst hx; exact add_lt _ _
theorem more_step (f : List Nat) (j : Nat) (ml : (Sh2.more f j).length = 16 + j) {x y a b : Nat} (hx : (Sh2.more f j)[1 + j]? = some x) (hy : (Sh2.more f j)[14 + j]? = some y) (ha : (Sh2.more f j)[9 + j]? = some a) (hb : (Sh2.more f j)[j]? = some b) :
    Sh2.more f j ++ [Sh2.add (Sh2.add (Sh2.add (Sh2.sig1 y) a) (Sh2.sig0 x)) b] = Sh2.more f (j + 1) := by
  simp only [Sh2.more, Sh2.next, List.getD_eq_getElem?_getD, ml]
  rw [show 16 + j - 2 = 14 + j by omega, show 16 + j - 7 = 9 + j by omega, show 16 + j - 15 = 1 + j by omega, show 16 + j - 16 = j by omega, hx, hy, ha, hb]; rfl
theorem sig0_bits (x : Nat) (hx : x < 4294967296) : bits .xor .u32 (bits .xor .u32 ((Sh2.rot x 7 : Nat) : Int) ((Sh2.rot x 18 : Nat) : Int)) ((x : Int) / 8) = (Sh2.sig0 x : Nat) := by
  have l1 := rot_lt x 7 hx; have l2 := rot_lt x 18 hx
  rw [u32_xor _ _ l1 l2]
  exact u32_xor _ (x / 8) (xor_lt32 _ _ l1 l2) (by omega)
theorem sig1_bits (x : Nat) (hx : x < 4294967296) : bits .xor .u32 (bits .xor .u32 ((Sh2.rot x 17 : Nat) : Int) ((Sh2.rot x 19 : Nat) : Int)) ((x : Int) / 1024) = (Sh2.sig1 x : Nat) := by
  have l1 := rot_lt x 17 hx; have l2 := rot_lt x 19 hx
  rw [u32_xor _ _ l1 l2]
  exact u32_xor _ (x / 1024) (xor_lt32 _ _ l1 l2) (by omega)
theorem patchN_at {z v : List Nat} {n k : Nat} (hz : z.length = n) (hv : v.length = n) (hk : k < n) : (z.take k ++ v.drop k)[k]? = v[k]? := by
  rw [List.getElem?_append_right (by rw [List.length_take]; omega), List.length_take, List.getElem?_drop]
  congr 1; omega
theorem patchN_set {z v : List Nat} {n k y : Nat} (hz : z.length = n) (hv : v.length = n) (hk : k < n) (hy : z[k]? = some y) : (z.take k ++ v.drop k).set k y = z.take (k + 1) ++ v.drop (k + 1) := by
  have h1 : (z.take k).length = k := by rw [List.length_take]; omega
  rw [List.set_append_right _ _ (by omega), h1, Nat.sub_self, List.take_add_one, hy, List.drop_eq_getElem_cons (by omega), List.set_cons_zero, List.append_assoc]; rfl
theorem not_xor (e : Nat) (h : e < 4294967296) : 4294967295 ^^^ e = Sh2.not e := by
  have h1 := BitVec.toNat_not (x := BitVec.ofNat 32 e)
  rw [BitVec.not_def, BitVec.toNat_xor, BitVec.toNat_allOnes, BitVec.toNat_ofNat, Nat.mod_eq_of_lt (by exact h)] at h1
  exact h1
theorem not_bits (e g : Nat) (he : e < 4294967296) (hg : g < 4294967296) : bits .and .u32 (bits .xor .u32 (if IntKind.u32.signed = true then -1 else IntKind.u32.max) (e : Int)) (g : Int) = ((Sh2.not e &&& g : Nat) : Int) := by
  have h1 := u32_xor 4294967295 e (by decide) he
  rw [not_xor e he] at h1
  have h2 : (if IntKind.u32.signed = true then (-1 : Int) else IntKind.u32.max) = ((4294967295 : Nat) : Int) := by decide +kernel
  rw [h2, h1]
  exact u32_and _ g (by unfold Sh2.not; omega) hg
theorem eight (v : List Nat) (h : v.length = 8) : ∃ a b c d e f g i, v = [a, b, c, d, e, f, g, i] := by
  match v, h with
  | [a, b, c, d, e, f, g, i], _ => exact ⟨a, b, c, d, e, f, g, i, rfl⟩
theorem round_ok (v : List Nat) (k w : Nat) (hl : v.length = 8) (h : B32 v) : (Sh2.round v k w).length = 8 ∧ B32 (Sh2.round v k w) := by
  obtain ⟨a, b, c, d, e, f, g, i, rfl⟩ := eight v hl
  refine ⟨rfl, fun x hx => ?_⟩
  simp only [Sh2.round, List.mem_cons, List.not_mem_nil, or_false] at hx
  rcases hx with rfl | rfl | rfl | rfl | rfl | rfl | rfl | rfl
  · exact add_lt _ _
  · exact h _ (by simp)
  · exact h _ (by simp)
  · exact h _ (by simp)
  · exact add_lt _ _
  · exact h _ (by simp)
  · exact h _ (by simp)
  · exact h _ (by simp)
theorem rounds_ok (ks ws s : List Nat) (hl : s.length = 8) (h : B32 s) : ∀ k, (Sh2.rounds ks ws k s).length = 8 ∧ B32 (Sh2.rounds ks ws k s)
  | 0 => ⟨hl, h⟩
  | k + 1 => round_ok _ _ _ (rounds_ok ks ws s hl h k).1 (rounds_ok ks ws s hl h k).2
theorem rounds_step (ks ws s : List Nat) (k : Nat) {x y : Nat} (hx : ks[k]? = some x) (hy : ws[k]? = some y) : Sh2.rounds ks ws (k + 1) s = Sh2.round (Sh2.rounds ks ws k s) x y := by
  simp only [Sh2.rounds, List.getD_eq_getElem?_getD, hx, hy, Option.getD_some]
theorem K_lt : ∀ x ∈ Sh2.K, x < 4294967296 := by decide +kernel
/-- the table of the rounds lies where it was laid -/
def Laid (w : World) : Prop := w.rangeAt 1 0 ((up Sh2.K).map (Value.int .u32))
theorem Laid.below {D : Nat} {w w' : World} (h : Laid w) (hb : Below D w w') (hD : 1 < D) : Laid w' := fun j v hv => (hb.cell (p := ⟨1, 0 + j, none⟩) hD).trans (h j v hv)
set_option maxHeartbeats 20000000 in
set_option maxRecDepth 100000 in
theorem block_any (s m : List Nat) (A : Option Addr) (n c D : Nat) (w : World) (hs : s.length = 8) (s32 : B32 s) (hr : Row w D 1 A n ((up m).map (Value.int .u8))) (hD : D ≤ w.heap.size) (m8 : B8 m) (hn : 64 ≤ n) (hn2 : n ≤ 4611686018427387904) (hL : Laid w) (hD0 : 1 < w.heap.size) :
    Calls Tryd.prog 58 #[.agg (cellsOf .u32 (up s)), .slice A n c] w fun e w' => e = .returned (.agg (cellsOf .u32 (up (Sh2.block s m)))) ∧ Below w.heap.size w w' := by
  have HR := hid hr
  have LK := hid hL
  clear hL
  have hml := hr.length
  rw [up_len] at hml
  have HML := hid hml; have M8 := hid m8; have SL := hid hs; have S32 := hid s32
  clear hr hml m8 hs s32
  go_enter Tryd.func58, Tryd.ntmps58
  go_wp2_with (with_reducible refine halt_op (some 2) (.box _ _) (fun K hK => ?_))
  refine go_on hK ?_; clear hK
  refine box_arr (k := .u32) (l := up s) rfl (.tmp 0) rfl rfl ?_
  rintro gs w1 hgs s1 b1 e1
  refine alloc_arr stateT rfl rfl ?_
  rintro go w2 hgo s2 b2 e2
  have BS2 := hid (b1.below e2 (by omega)); have BO2 := hid b2
  have E2 := hid ((hgs ▸ e1 : Below w.heap.size w w1).trans (e2.mono (by omega)))
  have o1 : w.heap.size ≤ gs := by omega
  have o2 : gs < go := by omega
  have o3 : go + 1 = w2.heap.size := by omega
  clear b1 b2 e1 e2 hgs s1 hgo s2
  go_wp2_with (with_reducible refine halt_op (some 5) (.alloc _) (fun K hK => ?_))
  refine go_on hK ?_; clear hK
  refine alloc_arr wordsT rfl rfl ?_
  rintro gw w3 hgw s3 b3 e3
  have BS3 := hid ((unhid BS2).below e3 (by omega)); have BO3 := hid ((unhid BO2).below e3 (by omega)); have BW3 := hid b3
  have E3 := hid ((unhid E2).trans (e3.mono (by omega)))
  have o4 : go < gw := by omega
  have o5 : gw < w3.heap.size := by omega
  clear b3 e3 hgw s3 BS2 BO2 E2 o3
  go_wp2_with fail
  go_loopw [20] (fun v20 wr => ∃ k : Nat, k ≤ 16 ∧ v20 = .int .i64 k ∧ Hid (Blk wr gw 125 (cellsOf .u32 (up (pad64 (firstsTo m k))))) ∧ Hid (Below gw w3 wr)) (fun v20 _ => 16 - (intOf v20).toNat)
  case atStart => exact ⟨0, Nat.zero_le _, rfl, by simpa [firstsTo, pad64, up] using BW3, Below.refl _ _⟩
  case round =>
    obtain ⟨k, hk, rfl, HB, HE⟩ := hrel
    by_cases hlt : k < 16
    · have HRr := ((unhid HR).below ((unhid E3).mono hD)).below ((unhid HE).mono (by omega))
      have fl := firstsTo_len m hk
      obtain ⟨a, ha⟩ : ∃ a, m[4 * k]? = some a := ⟨_, List.getElem?_eq_getElem (by rw [HML.out]; omega)⟩
      obtain ⟨b, hb⟩ : ∃ a, m[4 * k + 1]? = some a := ⟨_, List.getElem?_eq_getElem (by rw [HML.out]; omega)⟩
      obtain ⟨d, hd⟩ : ∃ a, m[4 * k + 2]? = some a := ⟨_, List.getElem?_eq_getElem (by rw [HML.out]; omega)⟩
      obtain ⟨f, hf⟩ : ∃ a, m[4 * k + 3]? = some a := ⟨_, List.getElem?_eq_getElem (by rw [HML.out]; omega)⟩
      have wb := word_bits a b d f (M8.out _ (List.mem_of_getElem? ha)) (M8.out _ (List.mem_of_getElem? hb)) (M8.out _ (List.mem_of_getElem? hd)) (M8.out _ (List.mem_of_getElem? hf))
      have st := hid (firstsTo_step m hlt ha hb hd hf)
      have ma : (a : Int) % 4294967296 = a := by have := M8.out _ (List.mem_of_getElem? ha); omega
      have mb : (b : Int) % 4294967296 = b := by have := M8.out _ (List.mem_of_getElem? hb); omega
      have md : (d : Int) % 4294967296 = d := by have := M8.out _ (List.mem_of_getElem? hd); omega
      have mf : (f : Int) % 4294967296 = f := by have := M8.out _ (List.mem_of_getElem? hf); omega
      obtain ⟨g, o, rfl, hg, hcell⟩ := HRr.cells (by omega)
      have c0 : wr.cell? ⟨g, o + 4 * k, none⟩ = some (.int .u8 a) := by rw [hcell (4 * k) (by rw [List.length_map, up_len, HML.out]; omega), List.getElem?_map, up_get, ha]; rfl
      have c1 : wr.cell? ⟨g, o + (4 * k + 1), none⟩ = some (.int .u8 b) := by rw [hcell (4 * k + 1) (by rw [List.length_map, up_len, HML.out]; omega), List.getElem?_map, up_get, hb]; rfl
      have c2 : wr.cell? ⟨g, o + (4 * k + 2), none⟩ = some (.int .u8 d) := by rw [hcell (4 * k + 2) (by rw [List.length_map, up_len, HML.out]; omega), List.getElem?_map, up_get, hd]; rfl
      have c3 : wr.cell? ⟨g, o + (4 * k + 3), none⟩ = some (.int .u8 f) := by rw [hcell (4 * k + 3) (by rw [List.length_map, up_len, HML.out]; omega), List.getElem?_map, up_get, hf]; rfl
      have c4 : wr.cell? ⟨gw, k, none⟩ = some (.int .u32 0) := by
        rw [(unhid HB).cell, cellsOf_get, up_get, pad64, List.getElem?_append_right (by omega), fl, Nat.sub_self, List.getElem?_replicate, if_pos (by omega)]; rfl
      have c5 : wr.frozen? ⟨gw, k, none⟩ = false := (unhid HB).free k
      have i1 : (0 : Int) ≤ 4 * (k : Int) := by omega
      have i2 : 4 * (k : Int) < (n : Int) := by omega
      have i3 : (0 : Int) ≤ 4 * (k : Int) + 1 := by omega
      have i4 : 4 * (k : Int) + 1 < (n : Int) := by omega
      have i5 : (0 : Int) ≤ 4 * (k : Int) + 2 := by omega
      have i6 : 4 * (k : Int) + 2 < (n : Int) := by omega
      have i7 : (0 : Int) ≤ 4 * (k : Int) + 3 := by omega
      have i8 : 4 * (k : Int) + 3 < (n : Int) := by omega
      have j1 : (0 : Int) ≤ (k : Int) := by omega
      have j2 : (k : Int) < 64 := by omega
      have q0 : IntKind.i64.wrap (4 * (k : Int)) = 4 * (k : Int) := IntWalk.i64_in _ (by omega)
      have q1 : IntKind.i64.wrap (4 * (k : Int) + 1) = 4 * (k : Int) + 1 := IntWalk.i64_in _ (by omega)
      have q2 : IntKind.i64.wrap (4 * (k : Int) + 2) = 4 * (k : Int) + 2 := IntWalk.i64_in _ (by omega)
      have q3 : IntKind.i64.wrap (4 * (k : Int) + 3) = 4 * (k : Int) + 3 := IntWalk.i64_in _ (by omega)
      have t0 : (4 * (k : Int)).toNat = 4 * k := by omega
      have t1 : (4 * (k : Int) + 1).toNat = 4 * k + 1 := by omega
      have t2 : (4 * (k : Int) + 2).toNat = 4 * k + 2 := by omega
      have t3 : (4 * (k : Int) + 3).toNat = 4 * k + 3 := by omega
      clear ha hb hd hf hcell HRr
      go_wp2_with fail
      go_region
      go_wp2_with fail
      go_roundw
      case rel =>
        refine ⟨k + 1, by omega, by go_num, ?_, ((unhid HE).setCell (Nat.le_refl _) _).drew⟩
        have := (unhid HB).put k (.int .u32 (Sh2.word a b d f : Nat))
        rw [cellsOf_set, up_set, pad64_set fl (by omega), st.out] at this
        exact this.drew
      case measure => simp [intOf]; omega
    · have hk16 : k = 16 := by omega
      subst hk16
      have f32 : B32 (Sh2.firsts m) := firsts_b32 m M8.out
      rw [firstsTo, List.take_of_length_le (by rw [firsts_len]; exact Nat.le_refl _)] at HB
      have F32 := hid f32; clear f32
      have HE0 := HE
      go_wp2_with fail
      go_loopw [7] (fun v7 wr => ∃ j : Nat, j ≤ 48 ∧ v7 = .int .i64 ((16 + j : Nat) : Int) ∧ Hid (Blk wr gw 125 (cellsOf .u32 (up (pad64 (Sh2.more (Sh2.firsts m) j))))) ∧ Hid (Below gw w3 wr)) (fun v7 _ => 64 - (intOf v7).toNat)
      case atStart => exact ⟨0, Nat.zero_le _, rfl, HB, HE⟩
      case round =>
        obtain ⟨j, hj, rfl, HB, HE⟩ := hrel
        obtain ⟨ml, mb⟩ := more_ok (Sh2.firsts m) (firsts_len m) F32.out j
        by_cases hlt : j < 48
        · obtain ⟨x, hx⟩ : ∃ x, (Sh2.more (Sh2.firsts m) j)[1 + j]? = some x := ⟨_, List.getElem?_eq_getElem (by rw [ml]; omega)⟩
          obtain ⟨y, hy⟩ : ∃ x, (Sh2.more (Sh2.firsts m) j)[14 + j]? = some x := ⟨_, List.getElem?_eq_getElem (by rw [ml]; omega)⟩
          obtain ⟨a, ha⟩ : ∃ x, (Sh2.more (Sh2.firsts m) j)[9 + j]? = some x := ⟨_, List.getElem?_eq_getElem (by rw [ml]; omega)⟩
          obtain ⟨b, hb⟩ : ∃ x, (Sh2.more (Sh2.firsts m) j)[j]? = some x := ⟨_, List.getElem?_eq_getElem (by rw [ml]; omega)⟩
          have bx := mb x (List.mem_of_getElem? hx); have by_ := mb y (List.mem_of_getElem? hy)
          have ba := mb a (List.mem_of_getElem? ha); have bb := mb b (List.mem_of_getElem? hb)
          have st := hid (more_step (Sh2.firsts m) j ml hx hy ha hb)
          have sx := sig0_bits x bx; have sy := sig1_bits y by_
          have cell : ∀ i v, i < 16 + j → (Sh2.more (Sh2.firsts m) j)[i]? = some v → wr.cell? ⟨gw, i, none⟩ = some (.int .u32 (v : Nat)) := fun i v hi hv => by
            rw [(unhid HB).cell, cellsOf_get, up_get, pad64_get (by rw [ml]; exact hi), hv]; rfl
          have c1 := cell _ _ (by omega) hx; have c2 := cell _ _ (by omega) hy; have c3 := cell _ _ (by omega) ha; have c4 := cell _ _ (by omega) hb
          have c5 : wr.cell? ⟨gw, 16 + j, none⟩ = some (.int .u32 0) := by
            rw [(unhid HB).cell, cellsOf_get, up_get, pad64, List.getElem?_append_right (by omega), ml, Nat.sub_self, List.getElem?_replicate, if_pos (by omega)]; rfl
          have c6 : wr.frozen? ⟨gw, 16 + j, none⟩ = false := (unhid HB).free (16 + j)
          have i0 : (((16 + j : Nat) : Int)) = 16 + (j : Int) := by omega
          rw [i0]
          have i1 : (16 : Int) + (j : Int) < 64 := by omega
          have i2 : (0 : Int) ≤ 16 + (j : Int) := by omega
          have q1 : (16 : Int) + (j : Int) - 15 = 1 + (j : Int) := by omega
          have q2 : (16 : Int) + (j : Int) - 2 = 14 + (j : Int) := by omega
          have q3 : (16 : Int) + (j : Int) - 7 = 9 + (j : Int) := by omega
          have q4 : (16 : Int) + (j : Int) - 16 = (j : Int) := by omega
          have i3 : (0 : Int) ≤ 1 + (j : Int) := by omega
          have i4 : 1 + (j : Int) < 64 := by omega
          have i5 : (0 : Int) ≤ 14 + (j : Int) := by omega
          have i6 : 14 + (j : Int) < 64 := by omega
          have i7 : (0 : Int) ≤ 9 + (j : Int) := by omega
          have i8 : 9 + (j : Int) < 64 := by omega
          have i9 : (0 : Int) ≤ (j : Int) := by omega
          have i10 : (j : Int) < 64 := by omega
          have t1 : (1 + (j : Int)).toNat = 1 + j := by omega
          have t2 : (14 + (j : Int)).toNat = 14 + j := by omega
          have t3 : (9 + (j : Int)).toNat = 9 + j := by omega
          have t4 : (16 + (j : Int)).toNat = 16 + j := by omega
          clear hx hy ha hb cell i0
          go_wp2_with fail
          go_quiet (fail)
          go_wp2_with fail
          refine (rot_7 x _ bx).mono ?_
          rintro e w' ⟨rfl, rfl⟩
          go_wp2_with fail
          refine (rot_18 x _ bx).mono ?_
          rintro e w' ⟨rfl, rfl⟩
          go_wp2_with fail
          refine (rot_17 y _ by_).mono ?_
          rintro e w' ⟨rfl, rfl⟩
          go_wp2_with fail
          refine (rot_19 y _ by_).mono ?_
          rintro e w' ⟨rfl, rfl⟩
          go_wp2_with fail
          go_region
          go_wp2_with fail
          refine ⟨?_, ?_⟩
          · repeat apply Exists.intro
            refine ⟨?_, rfl⟩
            have ev : ((Sh2.sig1 y : Nat) + (a : Int) + (Sh2.sig0 x : Nat) + (b : Int)) % 4294967296 = (Sh2.add (Sh2.add (Sh2.add (Sh2.sig1 y) a) (Sh2.sig0 x)) b : Nat) := by unfold Sh2.add; omega
            refine ⟨j + 1, by omega, by go_num, ?_, ?_⟩
            · have := ((unhid HB).drewN (nq + 1)).put (16 + j) (.int .u32 (Sh2.add (Sh2.add (Sh2.add (Sh2.sig1 y) a) (Sh2.sig0 x)) b : Nat))
              rw [cellsOf_set, up_set, pad64_set ml (by omega), st.out, ← ev] at this
              exact this
            · exact ((unhid HE).drewN (nq + 1)).setCell (Nat.le_refl gw) _
          · simp [intOf]; omega
        · have hj48 : j = 48 := by omega
          subst hj48
          go_wp2_with (with_reducible refine halt_op (some 102) (.load _ _) (fun K hK => ?_))
          refine go_on hK ?_; clear hK
          have WB := more_ok (Sh2.firsts m) (firsts_len m) F32.out 48
          have WL := hid (show (Sh2.words m).length = 64 from WB.1)
          have W32 := hid (show B32 (Sh2.words m) from WB.2)
          have hpad : pad64 (Sh2.more (Sh2.firsts m) 48) = Sh2.words m := by
            unfold pad64; rw [WB.1]; simp [Sh2.words]
          rw [hpad] at HB
          have HBS := hid ((unhid BS3).below (unhid HE) (by omega))
          refine load_arr stateT (l := up s) rfl (.tmp 2) rfl rfl (unhid HBS) (by rw [up_len]; exact SL.out) ?_
          refine alloc_arr stateT rfl rfl ?_
          rintro gv w4 hgv s4 b4 e4
          refine store_arr stateT (l := up s) rfl (.tmp 12) (.tmp 102) rfl rfl rfl (by rw [up_len]; exact SL.out) b4 (by simp [cellsOf]) ?_
          intro w5 b5 g5
          have e5 : Below gv wr w5 := Below.grown e4 g5 (by omega) (fun q hq => by injection hq with hq; omega)
          have lgw := (unhid HB).lt'
          have BW5 := hid ((unhid HB).below e5 (by omega))
          have BS5 := hid ((unhid HBS).below e5 (by omega))
          have BO5 := hid (((unhid BO3).below (unhid HE) (by omega)).below e5 (by omega))
          have E5 := hid (((unhid E3).trans ((unhid HE).mono (by omega))).trans (e5.mono (by omega)))
          have o6 : gw < gv := by omega
          have BV5 := hid b5
          have LK5 := hid ((unhid LK).below (unhid E5) hD0)
          clear b4 b5 e4 e5 g5 s4 hgv lgw HB HBS HE HE0 hpad WB BS3 BO3 BW3 E3 o5
          go_wp2_with (with_reducible refine halt_op (some 103) (.load _ _) (fun K hK => ?_))
          refine go_on hK ?_; clear hK
          refine load_ints wordsT (l := up Sh2.K) rfl (.global 1) rfl (g := 1) (q := 0) rfl (unhid LK5) (by rw [up_len]; rfl) ?_
          go_wp2_with fail
          go_loopw [104] (fun v104 wr => ∃ k : Nat, k ≤ 64 ∧ v104 = .int .i64 k ∧ Hid (Blk wr gv 99 (cellsOf .u32 (up (Sh2.rounds Sh2.K (Sh2.words m) k s)))) ∧ Hid (Below gv w5 wr)) (fun v104 _ => 64 - (intOf v104).toNat)
          case atStart => exact ⟨0, Nat.zero_le _, rfl, BV5, Below.refl _ _⟩
          case round =>
            obtain ⟨k, hk, rfl, HB, HE⟩ := hrel
            obtain ⟨vl, v32⟩ := rounds_ok Sh2.K (Sh2.words m) s SL.out S32.out k
            by_cases hlt : k < 64
            · obtain ⟨kk, hkk⟩ : ∃ x, Sh2.K[k]? = some x := ⟨_, List.getElem?_eq_getElem (by show k < 64; exact hlt)⟩
              obtain ⟨ww, hww⟩ : ∃ x, (Sh2.words m)[k]? = some x := ⟨_, List.getElem?_eq_getElem (by rw [WL.out]; exact hlt)⟩
              have hstep := rounds_step Sh2.K (Sh2.words m) s k hkk hww
              generalize Sh2.rounds Sh2.K (Sh2.words m) k s = v at *
              obtain ⟨a, b, c', d, e, f, g, h, rfl⟩ := eight v vl
              have HS := hid hstep
              have ba := v32 a (by simp); have bb := v32 b (by simp); have bc := v32 c' (by simp); have bd := v32 d (by simp)
              have be := v32 e (by simp); have bf := v32 f (by simp); have bg := v32 g (by simp); have bh := v32 h (by simp)
              have bk := K_lt kk (List.mem_of_getElem? hkk)
              have bw := W32.out ww (List.mem_of_getElem? hww)
              have c0 : wr.cell? ⟨gv, 0, none⟩ = some (.int .u32 (a : Nat)) := by rw [(unhid HB).cell, cellsOf_get, up_get]; rfl
              have c1 : wr.cell? ⟨gv, 1, none⟩ = some (.int .u32 (b : Nat)) := by rw [(unhid HB).cell, cellsOf_get, up_get]; rfl
              have c2 : wr.cell? ⟨gv, 2, none⟩ = some (.int .u32 (c' : Nat)) := by rw [(unhid HB).cell, cellsOf_get, up_get]; rfl
              have c3 : wr.cell? ⟨gv, 3, none⟩ = some (.int .u32 (d : Nat)) := by rw [(unhid HB).cell, cellsOf_get, up_get]; rfl
              have c4 : wr.cell? ⟨gv, 4, none⟩ = some (.int .u32 (e : Nat)) := by rw [(unhid HB).cell, cellsOf_get, up_get]; rfl
              have c5 : wr.cell? ⟨gv, 5, none⟩ = some (.int .u32 (f : Nat)) := by rw [(unhid HB).cell, cellsOf_get, up_get]; rfl
              have c6 : wr.cell? ⟨gv, 6, none⟩ = some (.int .u32 (g : Nat)) := by rw [(unhid HB).cell, cellsOf_get, up_get]; rfl
              have c7 : wr.cell? ⟨gv, 7, none⟩ = some (.int .u32 (h : Nat)) := by rw [(unhid HB).cell, cellsOf_get, up_get]; rfl
              have c8 : wr.cell? ⟨gw, k, none⟩ = some (.int .u32 (ww : Nat)) := by rw [((unhid BW5).below (unhid HE) o6).cell, cellsOf_get, up_get, hww]; rfl
              have j1 : (0 : Int) ≤ (k : Int) := by omega
              have j2 : (k : Int) < 64 := by omega
              have HKK := hid (show (up Sh2.K)[k]? = some (kk : Int) by rw [up_get, hkk]; rfl)
              have x1 := u32_and e f be bf
              have x2 := not_bits e g be bg
              have lt1 : e &&& f < 4294967296 := Nat.lt_of_le_of_lt Nat.and_le_left be
              have lt2 : Sh2.not e &&& g < 4294967296 := Nat.lt_of_le_of_lt Nat.and_le_right bg
              have x3 := u32_xor (e &&& f) (Sh2.not e &&& g) lt1 lt2
              have x4 := u32_and a b ba bb
              have x5 := u32_and a c' ba bc
              have x6 := u32_and b c' bb bc
              have la : a &&& b < 4294967296 := Nat.lt_of_le_of_lt Nat.and_le_left ba
              have lb : a &&& c' < 4294967296 := Nat.lt_of_le_of_lt Nat.and_le_left ba
              have lc : b &&& c' < 4294967296 := Nat.lt_of_le_of_lt Nat.and_le_left bb
              have x7 := u32_xor (a &&& b) (a &&& c') la lb
              have x8 := u32_xor ((a &&& b) ^^^ (a &&& c')) (b &&& c') (xor_lt32 _ _ la lb) lc
              clear hkk hww hstep v32 vl lt1 lt2 la lb lc
              go_wp2_with (with_reducible refine halt_op (some 107) (.index _ _ _) (fun K hK => ?_))
              refine go_on hK ?_; clear hK
              refine index_int wordsT (l := up Sh2.K) (j := k) rfl (.tmp 103) (.tmp 104) rfl rfl rfl hlt HKK.out ?_
              go_wp2_with fail
              go_quiet (fail)
              go_wp2_with fail
              go_quiet ((go_at_call 74; exact (tri_6 e _ be).mono fun _ _ hh => ⟨hh.1, ⟨_, hh.2.symm⟩⟩))
              have hp : (((h : Int) + (Sh2.tri e 6 11 25 : Nat) + (((e &&& f) ^^^ (Sh2.not e &&& g) : Nat) : Int) + (kk : Int)) % 4294967296 + (ww : Int)) % 4294967296 = (Sh2.pOf e f g h kk ww : Nat) := by
                unfold Sh2.pOf Sh2.add; omega
              obtain ⟨p, hpp⟩ : ∃ p, Sh2.pOf e f g h kk ww = p := ⟨_, rfl⟩
              rw [hpp] at hp
              rw [hp]
              have HPP := hid hpp
              clear hp hpp x1 x2 x3
              simp only [Exit.then]
              apply_assumption
              refine wp_seq_k (fun K hK => ?_)
              go_quiet ((go_at_call 74; exact (tri_2 a _ ba).mono fun _ _ hh => ⟨hh.1, ⟨_, hh.2.symm⟩⟩))
              have hq : ((Sh2.tri a 2 13 22 : Nat) + (((a &&& b) ^^^ (a &&& c') ^^^ (b &&& c') : Nat) : Int)) % 4294967296 = (Sh2.qOf a b c' : Nat) := by
                unfold Sh2.qOf Sh2.add; omega
              obtain ⟨q, hqq⟩ : ∃ q, Sh2.qOf a b c' = q := ⟨_, rfl⟩
              rw [hqq] at hq
              rw [hq]
              have HQQ := hid hqq
              clear hq hqq x4 x5 x6 x7 x8
              simp only [Exit.then]
              apply_assumption
              go_wp2_with (with_reducible refine halt_op none (.store _ _ _) (fun K hK => ?_))
              refine go_on hK ?_; clear hK
              have hr8 : [((p : Int) + (q : Int)) % 4294967296, (a : Int), (b : Int), (c' : Int), ((d : Int) + (p : Int)) % 4294967296, (e : Int), (f : Int), (g : Int)] = up (Sh2.round [a, b, c', d, e, f, g, h] kk ww) := by
                simp only [Sh2.round, HPP.out, HQQ.out, up, List.map_cons, List.map_nil, Sh2.add]
                congr 1
              refine store_arr stateT (l := [((p : Int) + (q : Int)) % 4294967296, (a : Int), (b : Int), (c' : Int), ((d : Int) + (p : Int)) % 4294967296, (e : Int), (f : Int), (g : Int)]) rfl (.tmp 12) (.tmp 169) rfl rfl rfl rfl ((unhid HB).drewN _) (by simp [cellsOf, up]) ?_
              intro w6 b6 g6
              rw [hr8, ← HS.out] at b6
              have B6 := hid b6
              have E6 := hid (((unhid HE).drewN _).grown g6 (Nat.le_of_lt (unhid HB).lt') (fun q hq => by injection hq with hq; omega))
              clear b6 g6 hr8
              go_wp2_with fail
              go_roundw
              case rel => exact ⟨k + 1, by omega, by go_num, B6, E6⟩
              case measure => simp [intOf]; omega
            · have hk64 : k = 64 := by omega
              subst hk64
              obtain ⟨v, hv⟩ : ∃ v, Sh2.rounds Sh2.K (Sh2.words m) 64 s = v := ⟨_, rfl⟩
              rw [hv] at HB vl v32
              have HBL := hid (show Sh2.block s m = List.zipWith Sh2.add v s by rw [← hv]; rfl)
              have VL := hid vl; have V32 := hid v32
              clear hv vl v32
              have hzl : (List.zipWith Sh2.add v s).length = 8 := by rw [List.length_zipWith, VL.out, SL.out]; rfl
              have ZL := hid hzl
              have hz : ∀ j x y, v[j]? = some x → s[j]? = some y → (List.zipWith Sh2.add v s)[j]? = some (Sh2.add x y) := fun j x y h1 h2 => by rw [List.getElem?_zipWith, h1, h2]
              have HZ := hid hz
              generalize List.zipWith Sh2.add v s = z at *
              have BS6 := hid ((unhid BS5).below (unhid HE) (by omega))
              have BO6 := hid ((unhid BO5).below (unhid HE) (by omega))
              have E6 := hid ((unhid E5).trans ((unhid HE).mono (by omega)))
              clear hzl hz BS5 BO5 E5 HE BW5 LK5 LK HR
              go_wp2_with fail
              go_loopw [171] (fun v171 wq => ∃ j : Nat, j ≤ 8 ∧ v171 = .int .i64 j ∧ Hid (Blk wq gv 99 (cellsOf .u32 (up (z.take j ++ v.drop j)))) ∧ Hid (Below gv wr wq)) (fun v171 _ => 8 - (intOf v171).toNat)
              case atStart => exact ⟨0, Nat.zero_le _, rfl, by simpa using HB, Below.refl _ _⟩
              case round =>
                obtain ⟨j, hj, rfl, HC, HF⟩ := hrel
                by_cases hj8 : j < 8
                · obtain ⟨x, hx⟩ : ∃ x, v[j]? = some x := ⟨_, List.getElem?_eq_getElem (by rw [VL.out]; exact hj8)⟩
                  obtain ⟨y, hy⟩ : ∃ y, s[j]? = some y := ⟨_, List.getElem?_eq_getElem (by rw [SL.out]; exact hj8)⟩
                  have hset := hid (patchN_set ZL.out VL.out hj8 (HZ.out j x y hx hy))
                  have c1 : wr.cell? ⟨gv, j, none⟩ = some (.int .u32 (x : Nat)) := by
                    rw [(unhid HC).cell, cellsOf_get, up_get, patchN_at ZL.out VL.out hj8, hx]; rfl
                  have c2 : wr.cell? ⟨gs, j, none⟩ = some (.int .u32 (y : Nat)) := by
                    rw [((unhid BS6).below (unhid HF) (by omega)).cell, cellsOf_get, up_get, hy]; rfl
                  have c3 : wr.frozen? ⟨gv, j, none⟩ = false := (unhid HC).free j
                  have j1 : (0 : Int) ≤ (j : Int) := by omega
                  have j2 : (j : Int) < 8 := by omega
                  clear hx hy
                  go_wp2_with fail
                  go_region
                  go_wp2_with fail
                  have ev : ((x : Int) + (y : Int)) % 4294967296 = ((Sh2.add x y : Nat) : Int) := by unfold Sh2.add; omega
                  go_roundw
                  case rel =>
                    refine ⟨j + 1, by omega, by go_num, ?_, ((unhid HF).setCell (Nat.le_refl gv) _).drew⟩
                    have := (unhid HC).put j (.int .u32 (Sh2.add x y : Nat))
                    rw [cellsOf_set, up_set, hset.out, ← ev] at this
                    exact this.drew
                  case measure => simp [intOf]; omega
                · have hj88 : j = 8 := by omega
                  subst hj88
                  have hall : z.take 8 ++ v.drop 8 = z := by
                    rw [List.drop_of_length_le (by rw [VL.out]; exact Nat.le_refl _), List.append_nil, List.take_of_length_le (by rw [ZL.out]; exact Nat.le_refl _)]
                  rw [hall, ← HBL.out] at HC
                  have zl : (up (Sh2.block s m)).length = 8 := by rw [up_len, HBL.out]; exact ZL.out
                  have BO7 := hid ((unhid BO6).below (unhid HF) (by omega))
                  have E7 := hid ((unhid E6).trans ((unhid HF).mono (by omega)))
                  clear hall HF BO6 BS6 E6 HB
                  go_wp2_with (with_reducible refine halt_op (some 183) (.load _ _) (fun K hK => ?_))
                  refine go_on hK ?_; clear hK
                  refine load_arr stateT (l := up (Sh2.block s m)) rfl (.tmp 12) rfl rfl (unhid HC) zl ?_
                  refine store_arr stateT (l := up (Sh2.block s m)) rfl (.tmp 4) (.tmp 183) rfl rfl rfl zl (unhid BO7) (by simp [cellsOf]) ?_
                  intro w8 b8 g8
                  have B8' := hid b8; have E8 := hid ((unhid E7).grown g8 (unhid E7).size (fun q hq => by injection hq with hq; omega)); clear b8 g8
                  go_wp2
                  exact bodyPost_ret (results_cell_row rfl _ _ go _ (cellsOf .u32 (up (Sh2.block s m))) (0, 0) _ rfl (unhid B8') stateT.under rfl (by rw [cellsOf_size, zl]; exact stateT.size)) rfl ⟨rfl, unhid E8⟩
end Go.Proofs.YtlaoijnlemgdfaaDoor

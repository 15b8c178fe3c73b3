/- The walks of lot.pick, lot.Pick, lot.Order. -/
import Derived.Test.YtlaoijnlemgdfaaDoorShaOfW
import Derived.Test.YtlaoijnlemgdfaaDoorMake
import Derived.Test.YtlaoijnlemgdfaaDoorRefNumW
import Derived.Test.YtlaoijnlemgdfaaDoorTold
namespace Go.Proofs.YtlaoijnlemgdfaaDoor
set_option linter.unusedVariables false
open Go.RowKit Go.Mny
def wordOf (d : List Nat) : Nat := Sh2.word (d.getD 0 0) (d.getD 1 0) (d.getD 2 0) (d.getD 3 0)
def pickN (d : List Nat) (n : Nat) : Nat := wordOf d * n / 4294967296
theorem wordOf_lt (d : List Nat) (h : B8 d) : wordOf d < 4294967296 := by
  have g : ∀ i, d.getD i 0 < 256 := fun i => by
    rw [List.getD_eq_getElem?_getD]
    cases hi : d[i]? with
    | none => simp
    | some x => simpa using h x (List.mem_of_getElem? hi)
  unfold wordOf
  rw [word_sum _ _ _ _ (g 0) (g 1) (g 2) (g 3)]
  have := g 0; have := g 1; have := g 2; have := g 3
  omega
theorem pickN_lt (d : List Nat) (n : Nat) (h : B8 d) (hn : 0 < n) : pickN d n < n := by
  unfold pickN
  have h1 := wordOf_lt d h
  rw [Nat.div_lt_iff_lt_mul (by decide)]
  have : wordOf d * n < 4294967296 * n := Nat.mul_lt_mul_of_pos_right h1 hn
  rw [Nat.mul_comm n]; exact this
theorem u64_in (n : Nat) (h : n < 18446744073709551616) : IntKind.u64.wrap (n : Int) = n := by
  unfold IntKind.wrap; simp [IntKind.signed, IntKind.bits]; omega
theorem u64_or (a b : Nat) (ha : a < 4294967296) (hb : b < 4294967296) : bits .or .u64 (a : Int) (b : Int) = ((a ||| b : Nat) : Int) := by
  have h : a ||| b < 2 ^ 32 := Nat.or_lt_two_pow (by omega) (by omega)
  show IntKind.u64.wrap ((BitVec.ofInt 64 (a : Int) ||| BitVec.ofInt 64 (b : Int)).toNat : Int) = _
  rw [BitVec.toNat_or, ofInt_i64 a (by omega), ofInt_i64 b (by omega)]
  exact u64_in _ (by omega)
theorem word64 (a b c e : Nat) (ha : a < 256) (hb : b < 256) (hc : c < 256) (he : e < 256) :
    bits .or .u64 (bits .or .u64 (bits .or .u64 ((a : Int) * 16777216) ((b : Int) * 65536)) ((c : Int) * 256)) (e : Int) = (Sh2.word a b c e : Nat) := by
  have h1 : (a : Int) * 16777216 = ((a * 16777216 : Nat) : Int) := by omega
  have h2 : (b : Int) * 65536 = ((b * 65536 : Nat) : Int) := by omega
  have h3 : (c : Int) * 256 = ((c * 256 : Nat) : Int) := by omega
  rw [h1, h2, h3, u64_or _ _ (by omega) (by omega)]
  have o1 : a * 16777216 ||| b * 65536 < 2 ^ 32 := Nat.or_lt_two_pow (by omega) (by omega)
  rw [u64_or _ _ (by omega) (by omega)]
  have o2 : a * 16777216 ||| b * 65536 ||| c * 256 < 2 ^ 32 := Nat.or_lt_two_pow o1 (by omega)
  rw [u64_or _ _ (by omega) (by omega)]
  unfold Sh2.word
  rw [Nat.mod_eq_of_lt (show a * 16777216 < 4294967296 by omega), Nat.mod_eq_of_lt (show b * 65536 < 4294967296 by omega), Nat.mod_eq_of_lt (show c * 256 < 4294967296 by omega)]
theorem pick_val (x n : Nat) (hx : x < 4294967296) (hn : n ≤ 2147483647) : wrap64 (IntKind.u64.wrap ((x : Int) * (n : Int)) / 4294967296) = (x * n / 4294967296 : Nat) := by
  have h : x * n ≤ 4294967296 * 2147483647 := Nat.mul_le_mul (by omega) hn
  obtain ⟨y, hy⟩ : ∃ y, x * n = y := ⟨_, rfl⟩
  rw [← Int.natCast_mul, hy]
  rw [hy] at h
  rw [u64_in y (by omega)]
  have e : ((y : Int) / 4294967296) = ((y / 4294967296 : Nat) : Int) := by omega
  rw [e]
  exact IntWalk.wrap64_in _ ⟨by omega, by omega⟩
set_option maxHeartbeats 1000000 in
set_option maxRecDepth 100000 in
theorem pick_any (d : List Nat) (n : Nat) (w : World) (hd : d.length = 32) (d8 : B8 d) (hn : n ≤ 2147483647) :
    Calls Tryd.prog 35 #[.agg (cellsOf .u8 (up d)), .int .i64 (n : Int)] w fun e w' => e = .returned (.int .i64 (pickN d n : Nat)) ∧ Below w.heap.size w w' := by
  obtain ⟨a, d1, rfl⟩ : ∃ a d1, d = a :: d1 := by cases d with | nil => simp at hd | cons a d => exact ⟨a, d, rfl⟩
  obtain ⟨b, d2, rfl⟩ : ∃ a d2, d1 = a :: d2 := by cases d1 with | nil => simp at hd | cons a d => exact ⟨a, d, rfl⟩
  obtain ⟨c, d3, rfl⟩ : ∃ a d3, d2 = a :: d3 := by cases d2 with | nil => simp at hd | cons a d => exact ⟨a, d, rfl⟩
  obtain ⟨e, d4, rfl⟩ : ∃ a d4, d3 = a :: d4 := by cases d3 with | nil => simp at hd | cons a d => exact ⟨a, d, rfl⟩
  have ha : a < 256 := d8 a (by simp); have hb : b < 256 := d8 b (by simp); have hc : c < 256 := d8 c (by simp); have he : e < 256 := d8 e (by simp)
  go_enter Tryd.func35, Tryd.ntmps35
  go_wp2_with (with_reducible refine halt_op (some 2) (.box _ _) (fun K hK => ?_))
  refine go_on hK ?_; clear hK
  refine box_arr (k := .u8) (l := up (a :: b :: c :: e :: d4)) rfl (.tmp 0) rfl rfl ?_
  rintro g2 w1 hg2 s1 b1 e1
  have c0 : w1.cell? ⟨g2, 0, none⟩ = some (.int .u8 (a : Int)) := (b1.cell 0).trans (by simp [cellsOf, up])
  have c1 : w1.cell? ⟨g2, 1, none⟩ = some (.int .u8 (b : Int)) := (b1.cell 1).trans (by simp [cellsOf, up])
  have c2 : w1.cell? ⟨g2, 2, none⟩ = some (.int .u8 (c : Int)) := (b1.cell 2).trans (by simp [cellsOf, up])
  have c3 : w1.cell? ⟨g2, 3, none⟩ = some (.int .u8 (e : Int)) := (b1.cell 3).trans (by simp [cellsOf, up])
  have E1 := hid (e1.mono (show w.heap.size ≤ g2 by omega))
  clear e1 b1 s1 hg2
  go_wp2
  rw [word64 a b c e ha hb hc he, pick_val _ n (by have := wordOf_lt _ d8; simpa [wordOf] using this) hn]
  go_ret
  exact ⟨by simp [pickN, wordOf], unhid E1⟩
theorem pick_ok (d : List Nat) (n : Nat) (w : World) (hd : d.length = 32) (d8 : B8 d) (h1 : 1 ≤ n) (hn : n ≤ 2147483647) :
    Calls Tryd.prog 18 #[.agg (cellsOf .u8 (up d)), .int .i64 (n : Int)] w fun e w' => e = .returned (.tuple #[.int .i64 (pickN d n : Nat), .nilIface]) ∧ Below w.heap.size w w' := by
  have D8 := hid d8; have HD := hid hd
  clear d8 hd
  have t1 : (1 : Int) ≤ (n : Int) := by omega
  have t2 : (n : Int) ≤ 2147483647 := by omega
  go_enter Tryd.func18, Tryd.ntmps18
  go_wp2_with (with_reducible refine halt_op (some 2) (.box _ _) (fun K hK => ?_))
  refine go_on hK ?_; clear hK
  refine box_arr (k := .u8) (l := up d) rfl (.tmp 0) rfl rfl ?_
  rintro g2 w1 hg2 s1 b1 e1
  have B1 := hid b1; have E1 := hid (e1.mono (show w.heap.size ≤ g2 by omega))
  have hz : w.heap.size ≤ w1.heap.size := by omega
  clear b1 e1 s1 hg2
  go_wp2_with (with_reducible refine halt_op (some 13) (.load _ _) (fun K hK => ?_))
  refine go_on hK ?_; clear hK
  refine load_arr digT rfl (.tmp 2) rfl rfl (unhid B1) (by rw [up_len]; exact HD.out) ?_
  go_wp2_with fail
  refine (pick_any d n _ HD.out D8.out hn).mono ?_
  rintro e w2 ⟨rfl, hb2⟩
  have E2 := hid ((unhid E1).trans (hb2.mono hz))
  clear hb2
  go_wp2_with fail
  go_ret2
  exact ⟨rfl, unhid E2⟩
theorem pick_no (d : List Nat) (n : Int) (w : World) (hn : n < 1 ∨ 2147483647 < n) :
    Calls Tryd.prog 18 #[.agg (cellsOf .u8 (up d)), .int .i64 n] w fun e w' => e = .returned (.tuple #[.int .i64 0, .iface 38 (.int .i64 2)]) ∧ Below w.heap.size w w' := by
  have hcase : n < 1 ∨ (1 ≤ n ∧ 2147483647 < n) := by omega
  clear hn
  rcases hcase with h | ⟨h1, h2⟩
  all_goals
    go_enter Tryd.func18, Tryd.ntmps18
    go_wp2_with (with_reducible refine halt_op (some 2) (.box _ _) (fun K hK => ?_))
    refine go_on hK ?_; clear hK
    refine box_arr (k := .u8) (l := up d) rfl (.tmp 0) rfl rfl ?_
    rintro g2 w1 hg2 s1 b1 e1
    have E1 := hid (e1.mono (show w.heap.size ≤ g2 by omega))
    clear b1 e1 s1 hg2
    go_wp2_with fail
    go_ret2
    exact ⟨rfl, unhid E1⟩
def be4 (i : Nat) : List Nat := [i / 16777216 % 256, i / 65536 % 256, i / 256 % 256, i % 256]
def ordText (d : List Nat) (i : Nat) : List Nat := 16 :: (d ++ be4 i)
def swapL (l : List Nat) (i j : Nat) : List Nat := (l.set i (l.getD j 0)).set j (l.getD i 0)
def ordStep (d l : List Nat) (i : Nat) : List Nat := swapL l i (pickN (Sh2.sum (ordText d i)) (i + 1))
def ordGo (d : List Nat) : Nat → List Nat → List Nat
  | 0, l => l
  | i + 1, l => ordGo d i (ordStep d l (i + 1))
def orderN (d : List Nat) (n : Nat) : List Nat := ordGo d (n - 1) (List.range n)
theorem be4_cells {m : Nat} (h : m < 1000) : (#[Value.int .u8 ((m : Int) / 16777216), Value.int .u8 ((m : Int) / 65536), Value.int .u8 ((m : Int) / 256), Value.int .u8 ((m : Int) % 256)] : Array Value).toList = (up (be4 m)).map (Value.int .u8) := by
  have h1 : (m : Int) / 16777216 = ((m / 16777216 % 256 : Nat) : Int) := by omega
  have h2 : (m : Int) / 65536 = ((m / 65536 % 256 : Nat) : Int) := by omega
  have h3 : (m : Int) / 256 = ((m / 256 % 256 : Nat) : Int) := by omega
  have h4 : (m : Int) % 256 = ((m % 256 : Nat) : Int) := by omega
  rw [h1, h2, h3, h4]; rfl
theorem be4_B8 (i : Nat) : B8 (be4 i) := by
  intro x hx
  simp only [be4, List.mem_cons, List.not_mem_nil, or_false] at hx
  rcases hx with rfl | rfl | rfl | rfl <;> exact Nat.mod_lt _ (by decide)
theorem ordText_B8 {d : List Nat} (h : B8 d) (i : Nat) : B8 (ordText d i) := by
  intro x hx
  rcases List.mem_cons.1 hx with rfl | hx
  · decide
  · exact (h.append (be4_B8 i)) x hx
theorem swapL_len (l : List Nat) (i j : Nat) : (swapL l i j).length = l.length := by simp [swapL]
theorem ordStep_pick_lt (d : List Nat) (i : Nat) : pickN (Sh2.sum (ordText d i)) (i + 1) < i + 1 := pickN_lt _ _ (Sh2.sum_lt _) (by omega)
theorem swapL_perm {l : List Nat} {i j : Nat} (hi : i < l.length) (hj : j < l.length) : (swapL l i j).Perm l := by
  unfold swapL
  rw [List.getD_eq_getElem?_getD, List.getD_eq_getElem?_getD, List.getElem?_eq_getElem hi, List.getElem?_eq_getElem hj]
  exact List.set_set_perm hi hj
theorem ordGo_perm (d : List Nat) : ∀ (i : Nat) (l : List Nat), i < l.length ∨ i = 0 → (ordGo d i l).Perm l
  | 0, l, _ => List.Perm.refl _
  | i + 1, l, h => by
    have h1 : i + 1 < l.length := by omega
    have hp : (ordStep d l (i + 1)).Perm l := swapL_perm h1 (by have := ordStep_pick_lt d (i + 1); omega)
    exact (ordGo_perm d i _ (.inl (by rw [hp.length_eq]; omega))).trans hp
theorem orderN_perm (d : List Nat) (n : Nat) : (orderN d n).Perm (List.range n) := ordGo_perm d _ _ (by rw [List.length_range]; omega)
def filled (n i : Nat) : List Nat := List.range i ++ List.replicate (n - i) 0
theorem filled_set {n i : Nat} (h : i < n) : (filled n i).set i i = filled n (i + 1) := by
  unfold filled
  rw [List.set_append_right _ _ (by simp), List.length_range, Nat.sub_self, show n - i = (n - (i + 1)) + 1 by omega, List.replicate_succ, List.set_cons_zero, List.range_succ, List.append_assoc]; rfl
abbrev nums (l : List Nat) : List Value := (up l).map (Value.int .i64)
theorem nums_set (l : List Nat) (i x : Nat) : (nums l).set i (.int .i64 (x : Int)) = nums (l.set i x) := by simp [nums, up, List.map_set]
theorem nums_get (l : List Nat) {i : Nat} (h : i < l.length) : (nums l)[i]? = some (.int .i64 ((l.getD i 0 : Nat) : Int)) := by
  simp [nums, up, List.getElem?_eq_getElem h]
def OrdP (d : List Nat) (n : Nat) (w : World) (e : Ending) (w' : World) : Prop := ∃ A, e = .returned (.tuple #[.slice A n n, .nilIface]) ∧ Row w' w'.heap.size 1 A n (nums (orderN d n)) ∧ Below w.heap.size w w'
set_option maxHeartbeats 4000000 in
set_option maxRecDepth 100000 in
theorem order_any (d : List Nat) (n : Nat) (w : World) (hd : d.length = 32) (d8 : B8 d) (hn : n ≤ 1000) (hL : Laid w) (h0 : 1 < w.heap.size) :
    Calls Tryd.prog 16 #[.agg (cellsOf .u8 (up d)), .int .i64 (n : Int)] w (OrdP d n w) := by
  have D8 := hid d8; have HD := hid hd; have HL := hid hL
  clear d8 hd hL
  have t1 : (0 : Int) ≤ (n : Int) := by omega
  have t2 : (n : Int) ≤ 1000 := by omega
  go_enter Tryd.func16, Tryd.ntmps16
  go_wp2_with (with_reducible refine halt_op (some 2) (.box _ _) (fun K hK => ?_))
  refine go_on hK ?_; clear hK
  refine box_arr (k := .u8) (l := up d) rfl (.tmp 0) rfl rfl ?_
  rintro g2 w1 hg2 s1 b1 e1
  have B1 := hid b1; have E1 := hid (e1.mono (show w.heap.size ≤ g2 by omega))
  have hz : w.heap.size ≤ g2 := by omega
  have hz1 : g2 < w1.heap.size := by omega
  clear b1 e1 s1 hg2
  go_wp2_with (with_reducible refine halt_op (some 19) (.makeSlice _ _ _) (fun K hK => ?_))
  refine go_on hK ?_; clear hK
  refine make_full (.int .i64 0) Tryd.underlying32 (b := 8) (by kernel_rfl) rfl rfl (.tmp 18) (.tmp 18) rfl rfl rfl (n := n) (by omega) (by simp [maxLen]; omega) ?_
  intro g6 w2 hg6 o2 e2 hz2'
  have O2 : Hid (Own w2 w1.heap.size 3 1 (some ⟨g6, 0, none⟩) n n (nums (filled n 0))) := hid (by
    have : nums (filled n 0) = List.replicate n (.int .i64 0) := by simp [nums, up, filled]
    rw [this]; exact o2)
  have B2 := hid ((unhid B1).below e2 hz1)
  have E2 := hid ((unhid E1).trans (e2.mono (by omega)))
  have hz2 : w1.heap.size < w2.heap.size := hz2'
  have h26 : g2 < g6 := by omega
  have h6 : g6 < w2.heap.size := by omega
  clear o2 e2 hg6 hz2' B1 E1
  go_wp2_with fail
  go_loopw [22] (fun v22 wr => ∃ i : Nat, i ≤ n ∧ v22 = .int .i64 i ∧ Hid (Own wr w1.heap.size 3 1 (some ⟨g6, 0, none⟩) n n (nums (filled n i))) ∧ Hid (Kept (fun j => j = g6) w2 wr)) (fun v22 _ => n - (intOf v22).toNat)
  case atStart => exact ⟨0, Nat.zero_le _, rfl, O2, Kept.refl _ _⟩
  case round =>
    obtain ⟨i, hi, rfl, HO, HK⟩ := hrel
    by_cases hlt : i < n
    · have i1 : (0 : Int) ≤ (i : Int) := by omega
      have i2 : (i : Int) < (n : Int) := by omega
      go_wp2_with (with_reducible refine halt_op none (.store _ _ _) (fun K hK => ?_))
      refine go_on hK ?_; clear hK
      refine store_own1 (v := .int .i64 (i : Int)) (by kernel_rfl) rfl (.tmp 28) (.tmp 27) rfl (unhid HO) hlt rfl rfl (.inl ⟨_, _, rfl⟩) ?_
      intro w3 o3 g3
      rw [nums_set, filled_set hlt] at o3
      have O3 := hid o3
      have K3 := hid ((unhid HK).trans (Kept.of_grown g3) (fun j _ h => by injection h with h; exact h.symm))
      clear o3 g3
      go_wp2_with fail
      go_roundw
      case rel => exact ⟨i + 1, by omega, by go_num, O3, K3⟩
      case measure => simp [intOf]; omega
    · have hin : i = n := by omega
      subst hin
      have hfull : filled i i = List.range i := by simp [filled]
      have O4 : Hid (Own wr w1.heap.size 3 1 (some ⟨g6, 0, none⟩) i i (nums (List.range i))) := by rw [hfull] at HO; exact HO
      have hzr : w2.heap.size ≤ wr.heap.size := (unhid HK).size
      obtain ⟨wo, hwo⟩ : ∃ wo : World, wo = wr := ⟨_, rfl⟩
      rw [← hwo] at O4 HK hzr
      rw [← hwo]
      clear hwo hfull HO
      go_wp2_with fail
      go_loopw [8] (fun v8 wr => ∃ (q : Nat) (l : List Nat), q ≤ i ∧ v8 = .int .i64 ((q : Int) - 1) ∧ Hid (l.length = i) ∧ Hid (ordGo d (q - 1) l = orderN d i) ∧ Hid (Own wr w1.heap.size 3 1 (some ⟨g6, 0, none⟩) i i (nums l)) ∧ Hid (Kept (fun j => j = g6) wo wr)) (fun v8 _ => (intOf v8 + 1).toNat)
      case atStart => exact ⟨i, List.range i, Nat.le_refl _, rfl, List.length_range, rfl, O4, Kept.refl _ _⟩
      case round =>
        obtain ⟨q, l, hq, rfl, HLEN, HGO, HO, HK2⟩ := hrel
        have hzq : wo.heap.size ≤ wr.heap.size := (unhid HK2).size
        by_cases hq2 : 2 ≤ q
        · obtain ⟨m, rfl⟩ : ∃ m, q = m + 1 := ⟨q - 1, by omega⟩
          rw [show (((m + 1 : Nat) : Int) - 1) = (m : Int) by omega]
          have m1 : (0 : Int) < (m : Int) := by omega
          have m2 : (m : Int) < 1000 := by omega
          have B3 := hid (((unhid B2).kept (unhid HK) (by omega)).kept (unhid HK2) (by omega))
          have hb3 := (unhid B3).lt'
          have RD : Hid (Row wr wr.heap.size 1 (some ⟨g2, 0, none⟩) 32 (bytes d)) := by
            have := Row.of_blk (unhid B3)
            rw [up_len, HD.out] at this
            exact this
          go_wp2_with (at_builtin; refine halt_at (fun K hK => ?_))
          refine go_on hK ?_; clear hK
          refine app_step bytesE rfl (.tmp 36) (.tmp 37) rfl rfl (Own.lit_at wr wr.heap.size 5 1 1 wr.heap.size _ (bytes [16]) rfl (Nat.le_refl _) (by decide) rfl rfl) rfl ((unhid RD).alloc (Nat.le_refl _) _) (bytes_one _) (by decide) (by decide) (by simp) ?_
          intro A3 c3 w3 o3 g3 l3
          rw [← bytes_append] at o3
          have E3 : Below wr.heap.size wr w3 := ((Below.refl _ _).alloc (Nat.le_refl _) _).grown g3 (by simp) (fun q hq => by simp [at_] at hq; omega)
          have O3 := hid o3; have F3 := hid E3
          have hz3 := E3.size
          clear o3 g3 l3 E3
          go_wp2_with (at_builtin; refine halt_at (fun K hK => ?_))
          refine go_on hK ?_; clear hK
          refine app_step bytesE rfl (.tmp 39) (.tmp 51) rfl rfl ((unhid O3).alloc _) rfl (Row.lit_at _ _ _ 4 _ (bytes (be4 m)) rfl (be4_cells (by omega)) rfl) (bytes_one _) (by decide) (by decide) (by simp; omega) ?_
          intro A4 c4 w4 o4 g4 l4
          rw [← bytes_append, show [16] ++ d ++ be4 m = ordText d m by simp [ordText]] at o4
          have E4 : Below wr.heap.size w3 w4 := ((Below.refl _ _).alloc hz3 _).grown g4 (by simp; omega) (fun q hq => by have := (unhid O3).from_ q hq; omega)
          have O4 := hid o4; have F4 := hid ((unhid F3).trans E4)
          have hz4 : wr.heap.size ≤ w4.heap.size := (unhid F4).size
          clear o4 g4 l4 E4 O3 F3 hz3
          have E4w : Hid (Below w.heap.size w w4) := hid ((((unhid E2).trans ((unhid HK).below (by omega) (fun j hj h => by omega))).trans ((unhid HK2).below (by omega) (fun j hj h => by omega))).trans ((unhid F4).mono (by omega)))
          go_wp2_with fail
          refine (sum_any (ordText d m) A4 37 c4 _ _ (Row.of_own (unhid O4)) (Nat.le_refl _) (by decide) (ordText_B8 D8.out m) ((unhid HL).below (unhid E4w) h0) (by omega)).mono ?_
          rintro e w5 ⟨rfl, hb5⟩
          have F5 := hid ((unhid F4).trans (hb5.mono hz4))
          have hz5 : wr.heap.size ≤ w5.heap.size := (unhid F5).size
          clear hb5 O4 F4
          have hsx : (Sh2.sum (ordText d m)).length = 32 := Sh2.sum_len _
          have hs8 : B8 (Sh2.sum (ordText d m)) := Sh2.sum_lt _
          have hjlt := ordStep_pick_lt d m
          have hstep : ordStep d l m = swapL l m (pickN (Sh2.sum (ordText d m)) (m + 1)) := rfl
          obtain ⟨X, hX⟩ : ∃ X, Sh2.sum (ordText d m) = X := ⟨_, rfl⟩
          rw [hX] at hsx hs8 hjlt hstep
          rw [hX]
          have HSX := hid hsx; have HS8 := hid hs8; have HST := hid hstep
          clear hsx hs8 hstep hX
          go_wp2_with fail
          rw [show ((m : Int) + 1) = ((m + 1 : Nat) : Int) by omega]
          refine (pick_any X (m + 1) _ HSX.out HS8.out (by omega)).mono ?_
          rintro e w6 ⟨rfl, hb6⟩
          have F6 := hid ((unhid F5).trans (hb6.mono hz5))
          clear hb6 F5
          obtain ⟨j, hj⟩ : ∃ j, pickN X (m + 1) = j := ⟨_, rfl⟩
          rw [hj] at hjlt HST
          rw [hj]
          clear hj
          have O6 := hid ((unhid HO).below (unhid F6) (Nat.le_refl _))
          have ci : w6.cell? ⟨g6, m, none⟩ = some (.int .i64 ((l.getD m 0 : Nat) : Int)) := ((unhid O6).get1 (i := m) (by omega)).1.trans (nums_get l (by rw [HLEN.out]; omega))
          have cj : w6.cell? ⟨g6, j, none⟩ = some (.int .i64 ((l.getD j 0 : Nat) : Int)) := ((unhid O6).get1 (i := j) (by omega)).1.trans (nums_get l (by rw [HLEN.out]; omega))
          have fi := ((unhid O6).get1 (i := m) (by omega)).2
          have fj := ((unhid O6).get1 (i := j) (by omega)).2
          obtain ⟨x, hx⟩ : ∃ x, l.getD m 0 = x := ⟨_, rfl⟩
          obtain ⟨y, hy⟩ : ∃ y, l.getD j 0 = y := ⟨_, rfl⟩
          rw [hx] at ci
          rw [hy] at cj
          obtain ⟨v', hv'⟩ := cell?_setCell_some (w := w6) (p := ⟨g6, m, none⟩) (x := .int .i64 (y : Int)) (q := ⟨g6, j, none⟩) (v := .int .i64 (y : Int)) cj
          have HX := hid hx; have HY := hid hy
          have i1 : (0 : Int) ≤ (m : Int) := by omega
          have i2 : (m : Int) < (i : Int) := by omega
          have i3 : (0 : Int) ≤ (j : Int) := by omega
          have i4 : (j : Int) < (i : Int) := by omega
          clear hx hy
          go_wp2_with fail
          go_region
          have hset : ((nums l).set m (.int .i64 (y : Int))).set j (.int .i64 (x : Int)) = nums (ordStep d l m) := by
            rw [nums_set, nums_set, HST.out, swapL, HX.out, HY.out]
          have q1 := (unhid O6).set1 (i := m) (by omega) (.int .i64 (y : Int))
          have q2 := q1.2.1.set1 (i := j) (by omega) (.int .i64 (x : Int))
          have O7 : Own ((w6.setCell ⟨g6, m, none⟩ (.int .i64 (y : Int))).setCell ⟨g6, j, none⟩ (.int .i64 (x : Int))).drew w1.heap.size 3 1 (some ⟨g6, 0, none⟩) i i (nums (ordStep d l m)) := by
            rw [← hset]; exact q2.2.1.drew
          have K7 : Kept (fun j => j = g6) wo ((w6.setCell ⟨g6, m, none⟩ (.int .i64 (y : Int))).setCell ⟨g6, j, none⟩ (.int .i64 (x : Int))).drew := ((((unhid HK2).trans (Kept.of_below (S := fun j => j = g6) (unhid F6) (Nat.le_refl _)) (fun j _ h => h)).trans (Kept.of_grown q1.2.2) (fun j _ h => by injection h with h; exact h.symm)).trans (Kept.of_grown q2.2.2) (fun j _ h => by injection h with h; exact h.symm)).drew
          have P7 := hid O7; have Q7 := hid K7
          have LL := hid (show (ordStep d l m).length = i by rw [HST.out, swapL_len]; exact HLEN.out)
          have GG : Hid (ordGo d (m - 1) (ordStep d l m) = orderN d i) := by
            have := HGO.out
            rw [Nat.add_sub_cancel, show m = (m - 1) + 1 by omega] at this
            rw [ordGo, show m - 1 + 1 = m by omega] at this
            exact this
          clear O7 K7 q1 q2 hset hv' ci cj fi fj
          generalize ((w6.setCell ⟨g6, m, none⟩ (.int .i64 (y : Int))).setCell ⟨g6, j, none⟩ (.int .i64 (x : Int))).drew = w7 at P7 Q7 ⊢
          go_wp2_with fail
          go_roundw
          case rel => exact ⟨m, ordStep d l m, by omega, rfl, LL, GG, P7, Q7⟩
          case measure => simp [intOf]
        · have hl0 : l = orderN d i := by
            have := HGO.out
            rw [show q - 1 = 0 by omega] at this
            exact this
          have hq0 : (q : Int) - 1 ≤ 0 := by omega
          rw [hl0] at HO
          have E8 : Hid (Below w.heap.size w wr) := hid (((unhid E2).trans ((unhid HK).below (by omega) (fun j hj h => by omega))).trans ((unhid HK2).below (by omega) (fun j hj h => by omega)))
          clear hl0 HGO
          go_wp2_with fail
          go_ret2
          exact ⟨_, rfl, Row.of_own (unhid HO), unhid E8⟩
theorem order_no (d : List Nat) (n : Int) (w : World) (hn : n < 0 ∨ 1000 < n) :
    Calls Tryd.prog 16 #[.agg (cellsOf .u8 (up d)), .int .i64 n] w fun e w' => e = .returned (.tuple #[.slice none 0 0, .iface 38 (.int .i64 2)]) ∧ Below w.heap.size w w' := by
  have hcase : n < 0 ∨ (0 ≤ n ∧ 1000 < n) := by omega
  clear hn
  rcases hcase with h | ⟨h1, h2⟩
  all_goals
    go_enter Tryd.func16, Tryd.ntmps16
    go_wp2_with (with_reducible refine halt_op (some 2) (.box _ _) (fun K hK => ?_))
    refine go_on hK ?_; clear hK
    refine box_arr (k := .u8) (l := up d) rfl (.tmp 0) rfl rfl ?_
    rintro g2 w1 hg2 s1 b1 e1
    have E1 := hid (e1.mono (show w.heap.size ≤ g2 by omega))
    clear b1 e1 s1 hg2
    go_wp2_with fail
    go_ret2
    exact ⟨rfl, unhid E1⟩
end Go.Proofs.YtlaoijnlemgdfaaDoor

/- The walks of mac.Key, of key.Public and of what it calls. -/
import Derived.Test.YtibhhbjbfdbmdaaDoorMacW
import Derived.Test.YtibhhbjbfdbmdaaDoorKeyStepW
import Derived.Test.YtibhhbjbfdbmdaaDoorRow
namespace Go.Proofs.YtibhhbjbfdbmdaaDoor
set_option linter.unusedVariables false
open Go.RowKit Go.Mny
set_option maxHeartbeats 1000000 in
set_option maxRecDepth 100000 in
theorem macKey_any (seed b : List Nat) (A : Option Addr) (n c D : Nat) (w : World) (hs : seed.length = 32) (s8 : B8 seed) (hr : Row w D 1 A n (bytes b)) (hD : D ≤ w.heap.size) (hn : n ≤ 1000) (b8 : B8 b) (hL : Laid w) (h0 : 1 < w.heap.size) :
    Calls Tryd.prog 49 #[.agg (cellsOf .u8 (up seed)), .slice A n c] w fun e w' => e = .returned (.agg (cellsOf .u8 (up (macN seed b)))) ∧ Below w.heap.size w w' := by
  have HR := hid hr; have HL := hid hL; have HS := hid hs; have S8 := hid s8; have B8' := hid b8
  clear hr hL hs s8 b8
  go_enter Tryd.func49, Tryd.ntmps49
  go_wp2_with (with_reducible refine halt_op (some 2) (.box _ _) (fun K hK => ?_))
  refine go_on hK ?_; clear hK
  refine box_arr (k := .u8) (l := up seed) rfl (.tmp 0) rfl rfl ?_
  rintro g2 w1 hg2 s1 b1 e1
  go_wp2_with (with_reducible refine halt_op (some 4) (.alloc _) (fun K hK => ?_))
  refine go_on hK ?_; clear hK
  refine alloc_arr digT rfl rfl ?_
  rintro g4 w2 hg4 s2 b2 e2
  have h24 : g2 < g4 := by omega
  have hw2 : w.heap.size ≤ g2 := by omega
  have hg42 : g4 < w2.heap.size := by omega
  have B2 := hid b2
  have E2 := hid ((e1.trans (e2.mono (by omega))).mono hw2)
  have RS : Hid (Row w2 w2.heap.size 1 (some ⟨g2, 0, none⟩) 32 (bytes seed)) := by
    have h1 := Row.of_blk (b1.below e2 h24)
    rw [up_len, HS.out] at h1
    exact h1
  have RB := hid (((unhid HR).below ((unhid E2).mono hD)).more (show D ≤ w2.heap.size by omega))
  clear b1 b2 e1 e2 hg2 hg4 s1 s2
  go_wp2_with fail
  refine (mac_any seed b _ A 32 32 n c w2.heap.size w2 (unhid RS) (unhid RB) (Nat.le_refl _) (by decide) (by omega) S8.out B8'.out ((unhid HL).below (unhid E2) h0) (by omega)).mono ?_
  rintro e w3 ⟨rfl, hb3⟩
  have B3 := hid ((unhid B2).below hb3 hg42)
  have E3 := hid ((unhid E2).trans (hb3.mono (unhid E2).size))
  clear hb3
  go_wp2_with (with_reducible refine halt_op none (.store _ _ _) (fun K hK => ?_))
  refine go_on hK ?_; clear hK
  refine store_arr digT (l := up (macN seed b)) rfl (.tmp 4) (.tmp 7) rfl rfl rfl (by rw [up_len, macN_len]) (unhid B3) (by simp [cellsOf]) ?_
  intro w8 b8 g8
  have B8 := hid b8
  have E8 := hid ((unhid E3).grown g8 (unhid E3).size (fun q hq => by injection hq with hq; omega))
  clear b8 g8
  go_wp2_with fail
  exact bodyPost_ret (results_cell_row rfl _ _ g4 _ (cellsOf .u8 (up (macN seed b))) (0, 0) _ rfl (unhid B8) digT.under rfl (by rw [cellsOf_size, up_len, macN_len]; exact digT.size)) rfl ⟨rfl, unhid E8⟩
def secN (seed : List Nat) (i : Nat) : List Nat := macN seed [5, i]
theorem Row.lit2 (w : World) (e : Nat) (x y : Nat) : Row (w.alloc (.cells #[.int .u8 (x : Int), .int .u8 (y : Int)] e)) (w.heap.size + 1) 1 (some ⟨w.heap.size, 0, none⟩) 2 (bytes [x, y]) := Row.lit w e #[.int .u8 (x : Int), .int .u8 (y : Int)] 2 (bytes [x, y]) rfl rfl
set_option maxHeartbeats 1000000 in
set_option maxRecDepth 100000 in
theorem secret_any (seed : List Nat) (i g : Nat) (w : World) (hs : seed.length = 32) (s8 : B8 seed) (hi : i < 67) (hg : Blk w g 23 (cellsOf .u8 (up seed))) (hL : Laid w) (h0 : 1 < w.heap.size) :
    Calls Tryd.prog 48 #[.int .i64 (i : Int), .pointer (some ⟨g, 0, none⟩)] w fun e w' => e = .returned (.agg (cellsOf .u8 (up (secN seed i)))) ∧ Below w.heap.size w w' := by
  have hgw := hg.lt'
  have HG := hid hg; have HL := hid hL; have HS := hid hs; have S8 := hid s8
  have SL := hid (show (up seed).length = 32 by rw [up_len]; exact hs)
  have hw8 : IntKind.u8.wrap (i : Int) = (i : Int) := by
    unfold IntKind.wrap
    simp [IntKind.bits, IntKind.signed]
    omega
  have hm : (i : Int) % 256 = (i : Int) := by omega
  have hi0 : (0 : Int) ≤ (i : Int) := by omega
  clear hg hL hs s8
  go_enter Tryd.func48, Tryd.ntmps48
  go_wp2_with (with_reducible refine halt_op (some 3) (.alloc _) (fun K hK => ?_))
  refine go_on hK ?_; clear hK
  refine alloc_arr digT rfl rfl ?_
  rintro g3 w1 hg3 s1 b1 e1
  have B1 := hid b1
  have E1 := hid (e1.mono (show w.heap.size ≤ g3 by omega))
  have G1 := hid ((unhid HG).below (unhid E1) hgw)
  have hw3 : w.heap.size ≤ g3 := by omega
  have hg31 : g3 < w1.heap.size := by omega
  clear b1 e1 hg3 s1
  go_wp2_with (with_reducible refine halt_op (some 4) (.load _ _) (fun K hK => ?_))
  refine go_on hK ?_; clear hK
  refine load_arr digT rfl (.tmp 1) rfl rfl (unhid G1) SL.out ?_
  go_wp2_with fail
  refine (macKey_any seed [5, i] _ 2 2 (w1.heap.size + 1) _ HS.out S8.out (Row.lit2 w1 _ 5 i) (by simp) (by omega) (fun x hx => by simp at hx; omega) ((unhid HL).below ((unhid E1).alloc (unhid E1).size _) h0) (Nat.lt_of_lt_of_le h0 ((unhid E1).alloc (unhid E1).size _).size)).mono ?_
  rintro e w3 ⟨rfl, hb3⟩
  have hA : Below w1.heap.size w1 w3 := ((Below.refl _ _).alloc (Nat.le_refl _) _).trans (hb3.mono (by simp))
  have B3 := hid ((unhid B1).below hA hg31)
  have E3 := hid ((unhid E1).trans (hA.mono (unhid E1).size))
  clear hb3 hA
  go_wp2_with (with_reducible refine halt_op none (.store _ _ _) (fun K hK => ?_))
  refine go_on hK ?_; clear hK
  refine store_arr digT (l := up (secN seed i)) rfl (.tmp 3) (.tmp 8) rfl rfl rfl (by rw [up_len]; exact macN_len _ _) (unhid B3) (by simp [cellsOf]) ?_
  intro w8 b8 g8
  have B8 := hid b8
  have E8 := hid ((unhid E3).grown g8 (unhid E3).size (fun q hq => by injection hq with hq; omega))
  clear b8 g8
  go_wp2_with fail
  exact bodyPost_ret (results_cell_row rfl _ _ g3 _ (cellsOf .u8 (up (secN seed i))) (0, 0) _ rfl (unhid B8) digT.under rfl (by rw [cellsOf_size, up_len, show (secN seed i).length = 32 from macN_len _ _]; exact digT.size)) rfl ⟨rfl, unhid E8⟩
theorem fifteen_any (v : Value) (w : World) : Calls Tryd.prog 29 #[v] w fun e w' => e = .returned (.int .i64 15) ∧ w = w' := by
  go_enter Tryd.func29, Tryd.ntmps29
  go_wp2_with fail
  go_ret
  exact ⟨rfl, rfl⟩
def endN (seed : List Nat) (i : Nat) : List Nat := stepN 15 (secN seed i)
/-- the first k ends, and 0 behind them -/
def endsK (seed : List Nat) (k : Nat) : List (List Nat) := (List.range 67).map fun j => if j < k then endN seed j else List.replicate 32 0
def pubN (seed : List Nat) : List Nat := Sh2.sum (7 :: (endsK seed 67).flatten)
theorem endN_ok (seed : List Nat) (i : Nat) : (endN seed i).length = 32 ∧ B8 (endN seed i) := stepN_ok _ (macN_len _ _) (macN_B8 _ _) 15
theorem endsK_len (seed : List Nat) (k : Nat) : (endsK seed k).length = 67 := by simp [endsK]
theorem endsK_each (seed : List Nat) (k : Nat) : ∀ l ∈ endsK seed k, l.length = 32 := by
  intro l hl
  obtain ⟨j, _, rfl⟩ := List.mem_map.1 hl
  split
  · exact (endN_ok seed j).1
  · simp
theorem endsK_B8 (seed : List Nat) (k : Nat) : B8 (endsK seed k).flatten := by
  intro x hx
  obtain ⟨l, hl, hx⟩ := List.mem_flatten.1 hx
  obtain ⟨j, _, rfl⟩ := List.mem_map.1 hl
  split at hx
  · exact (endN_ok seed j).2 x hx
  · rw [(List.mem_replicate.1 hx).2]; decide
theorem endsK_set (seed : List Nat) (k : Nat) (hk : k < 67) : (endsK seed k).set k (endN seed k) = endsK seed (k + 1) := by
  refine List.ext_getElem? fun q => ?_
  rw [List.getElem?_set, endsK_len]
  by_cases hq : q < 67
  · have e : ∀ m, (endsK seed m)[q]? = some (if q < m then endN seed q else List.replicate 32 0) := fun m => by simp [endsK, hq]
    rw [e, e]
    by_cases h1 : k = q
    · subst h1; rw [if_pos rfl, if_pos hk, if_pos (by omega)]
    · rw [if_neg h1]
      by_cases h2 : q < k
      · rw [if_pos h2, if_pos (by omega)]
      · rw [if_neg h2, if_neg (by omega)]
  · rw [if_neg (by omega), List.getElem?_eq_none (by rw [endsK_len]; omega), List.getElem?_eq_none (by rw [endsK_len]; omega)]
def endsC (seed : List Nat) (k : Nat) : Array Value := (bytes (endsK seed k).flatten).toArray
theorem endsC_size (seed : List Nat) (k : Nat) : (endsC seed k).size = 2144 := by
  unfold endsC
  rw [List.size_toArray, bytes_len, flat_len _ (endsK_each seed k), endsK_len]
theorem endsC_put (seed : List Nat) (k : Nat) (hk : k < 67) : splice (endsC seed k) (k * 32) (bytes (endN seed k)) = endsC seed (k + 1) := by
  have h := flat_put (k := .u8) (s := 32) (L := (endsK seed k).map up) (by intro l hl; obtain ⟨x, hx, rfl⟩ := List.mem_map.1 hl; rw [up_len]; exact endsK_each seed k x hx) (i := k) (by rw [List.length_map, endsK_len]; exact hk) (up (endN seed k))
  have e : ∀ M : List (List Nat), (M.map up).flatten = up M.flatten := fun M => by
    induction M with
    | nil => rfl
    | cons m M ih => rw [List.map_cons, List.flatten_cons, List.flatten_cons, ih]; simp [up]
  rw [e, ← List.map_set, e, endsK_set seed k hk] at h
  unfold putAt at h
  unfold splice endsC
  apply congrArg List.toArray
  rw [bytes_len, (endN_ok seed k).1, ← Nat.succ_mul]
  exact h
theorem endsT : RowT Tryd.prog 66 2144 := ⟨⟨_, Tryd.underlying66, rfl⟩, by kernel_rfl⟩
theorem endsZ0 : (Tryd.prog.info? 66).bind (·.zero) = some (.agg (Array.replicate 2144 (.int .u8 0))) := by kernel_rfl
theorem zeros_flat : ∀ n : Nat, (List.replicate n (List.replicate 32 (0 : Nat))).flatten = List.replicate (n * 32) 0
  | 0 => rfl
  | n + 1 => by rw [List.replicate_succ, List.flatten_cons, zeros_flat n, Nat.succ_mul, Nat.add_comm (n * 32) 32, List.replicate_append_replicate]
theorem bytes_rep (n : Nat) : (bytes (List.replicate n 0)).toArray = Array.replicate n (Value.int .u8 0) := by simp [bytes, up]
theorem endsK_zero (seed : List Nat) : endsK seed 0 = List.replicate 67 (List.replicate 32 0) := by
  have h : endsK seed 0 = (List.range 67).map fun _ => List.replicate 32 0 := List.map_congr_left fun j _ => if_neg (Nat.not_lt_zero j)
  rw [h, List.map_const', List.length_range]
theorem endsC_zero (seed : List Nat) : endsC seed 0 = Array.replicate 2144 (.int .u8 0) := by
  unfold endsC
  rw [endsK_zero, zeros_flat]
  exact bytes_rep 2144
theorem endsZ (seed : List Nat) : (Tryd.prog.info? 66).bind (·.zero) = some (.agg (endsC seed 0)) := by rw [endsC_zero]; exact endsZ0
def secF (g : Nat) : Value := .func (.func 48) #[] #[.pointer (some ⟨g, 0, none⟩)]
def finF : Value := .func (.func 29) #[] #[]
set_option maxHeartbeats 4000000 in
set_option maxRecDepth 100000 in
theorem ends_any (seed : List Nat) (g : Nat) (w : World) (hs : seed.length = 32) (s8 : B8 seed) (hg : Blk w g 23 (cellsOf .u8 (up seed))) (hL : Laid w) (h0 : 1 < w.heap.size) :
    Calls Tryd.prog 27 #[secF g, finF] w fun e w' => e = .returned (.agg (endsC seed 67)) ∧ Below w.heap.size w w' := by
  have hgw := hg.lt'
  have HG := hid hg; have HL := hid hL; have HS := hid hs; have S8 := hid s8
  clear hg hL hs s8
  unfold secF finF
  go_enter Tryd.func27, Tryd.ntmps27
  go_wp2_with (with_reducible refine halt_op (some 4) (.alloc _) (fun K hK => ?_))
  refine go_on hK ?_; clear hK
  refine alloc_row _ (endsZ seed) rfl rfl ?_
  rintro g4 w1 hg4 s1 b1 e1
  have B1 := hid b1
  have E1 := hid (e1.mono (show w.heap.size ≤ g4 by omega))
  have hw4 : w.heap.size ≤ g4 := by omega
  clear b1 e1 hg4 s1
  go_wp2_with fail
  go_loopw [6] (fun v6 wr => ∃ k : Nat, k ≤ 67 ∧ v6 = .int .i64 (k : Int) ∧ Hid (Blk wr g4 66 (endsC seed k)) ∧ Hid (Below w.heap.size w wr)) (fun v6 _ => 67 - (intOf v6).toNat)
  case atStart => exact ⟨0, by omega, rfl, B1, E1⟩
  case round =>
    obtain ⟨k, hk, rfl, HB, HE⟩ := hrel
    have hsz := (unhid HE).size
    have h4r := (unhid HB).lt'
    by_cases hlt : k < 67
    · have i1 : (0 : Int) ≤ (k : Int) := by omega
      have i2 : (k : Int) < 67 := by omega
      have EO := hid (endN_ok seed k)
      have CS := hid (secret_any seed k g wr HS.out S8.out hlt ((unhid HG).below (unhid HE) hgw) ((unhid HL).below (unhid HE) h0) (by omega))
      obtain ⟨wk, hwk⟩ : ∃ wk : World, wk = wr := ⟨_, rfl⟩
      rw [← hwk] at HB HE hsz h4r CS
      rw [← hwk]
      clear hwk
      go_wp2_with fail
      refine (unhid CS).mono ?_
      rintro e w5 ⟨rfl, hb5⟩
      have B5 := hid ((unhid HB).below hb5 h4r)
      have E5 := hid ((unhid HE).trans (hb5.mono hsz))
      have h5 : g4 < w5.heap.size := by have := hb5.size; omega
      clear hb5 HB HE CS
      go_wp2_with fail
      refine (fifteen_any _ _).mono ?_
      rintro e w' ⟨rfl, rfl⟩
      go_wp2_with fail
      refine (step_any (secN seed k) 15 _ (macN_len _ _) (macN_B8 _ _) (by decide) ((unhid HL).below (unhid E5) h0) (by have := (unhid E5).size; omega)).mono ?_
      rintro e w6 ⟨rfl, hb6⟩
      have B6 := hid ((unhid B5).below hb6 h5)
      have E6 := hid ((unhid E5).trans (hb6.mono (unhid E5).size))
      clear hb6 B5 E5
      go_wp2_with (with_reducible refine halt_op none (.store _ _ _) (fun K hK => ?_))
      refine go_on hK ?_; clear hK
      refine store_mid digT.rowT rfl (.tmp 17) (.tmp 16) rfl (q := k * 32) (vs := bytes (endN seed k)) rfl rfl (by rw [bytes_len]; exact EO.out.1) (bytes_one _) (unhid B6) (by rw [endsC_size, bytes_len, EO.out.1]; omega) ?_
      intro w7 b7 g7
      rw [endsC_put seed k hlt] at b7
      have B7 := hid b7
      have E7 := hid ((unhid E6).grown g7 (unhid E6).size (fun q hq => by injection hq with hq; omega))
      clear b7 g7 B6 E6
      go_wp2_with fail
      go_roundw
      case rel => exact ⟨k + 1, by omega, by go_num, B7, E7⟩
      case measure => simp [intOf]; omega
    · have hk67 : k = 67 := by omega
      subst hk67
      have CZ := hid (endsC_size seed 67)
      have CB : Hid ((bytes (endsK seed 67).flatten).length = 2144) := by
        have := endsC_size seed 67
        unfold endsC at this
        rw [List.size_toArray] at this; exact this
      go_wp2_with (with_reducible refine halt_op (some 19) (.load _ _) (fun K hK => ?_))
      refine go_on hK ?_; clear hK
      refine load_row endsT rfl (.tmp 4) rfl rfl (cs := bytes (endsK seed 67).flatten) (unhid HB) CB.out ?_
      refine store_row endsT (vs := bytes (endsK seed 67).flatten) rfl (.tmp 4) (.tmp 19) rfl rfl rfl CB.out (bytes_one _) (unhid HB) CZ.out ?_
      intro w7 b7 g7
      have B7 := hid b7
      have E7 := hid ((unhid HE).grown g7 hsz (fun q hq => by injection hq with hq; omega))
      clear b7 g7
      go_wp2_with fail
      exact bodyPost_ret (results_cell_row rfl _ _ g4 _ (endsC seed 67) (0, 0) _ rfl (unhid B7) Tryd.underlying66 rfl (by rw [CZ.out]; exact endsT.size)) rfl ⟨rfl, unhid E7⟩
theorem secrets_any (seed : List Nat) (w : World) : Calls Tryd.prog 28 #[.agg (cellsOf .u8 (up seed))] w fun e w' => ∃ g, e = .returned (secF g) ∧ Blk w' g 23 (cellsOf .u8 (up seed)) ∧ w.heap.size ≤ g ∧ Below w.heap.size w w' := by
  go_enter Tryd.func28, Tryd.ntmps28
  go_wp2_with (with_reducible refine halt_op (some 1) (.box _ _) (fun K hK => ?_))
  refine go_on hK ?_; clear hK
  refine box_arr (k := .u8) (l := up seed) rfl (.tmp 0) rfl rfl ?_
  rintro g1 w1 hg1 s1 b1 e1
  have B1 := hid b1; have E1 := hid (e1.mono (show w.heap.size ≤ g1 by omega))
  have hw1 : w.heap.size ≤ g1 := by omega
  clear b1 e1 hg1 s1
  go_wp2_with fail
  go_ret
  exact ⟨g1, rfl, unhid B1, hw1, unhid E1⟩
set_option maxHeartbeats 4000000 in
set_option maxRecDepth 100000 in
theorem public_any (seed : List Nat) (w : World) (hs : seed.length = 32) (s8 : B8 seed) (hL : Laid w) (h0 : 1 < w.heap.size) :
    Calls Tryd.prog 14 #[.agg (cellsOf .u8 (up seed))] w fun e w' => e = .returned (.agg (cellsOf .u8 (up (pubN seed)))) ∧ Below w.heap.size w w' := by
  have HL := hid hL; have HS := hid hs; have S8 := hid s8
  have SL := hid (show (up seed).length = 32 by rw [up_len]; exact hs)
  clear hL hs s8
  go_enter Tryd.func14, Tryd.ntmps14
  go_wp2_with (with_reducible refine halt_op (some 1) (.box _ _) (fun K hK => ?_))
  refine go_on hK ?_; clear hK
  refine box_arr (k := .u8) (l := up seed) rfl (.tmp 0) rfl rfl ?_
  rintro g1 w1 hg1 s1 b1 e1
  go_wp2_with (with_reducible refine halt_op (some 2) (.alloc _) (fun K hK => ?_))
  refine go_on hK ?_; clear hK
  refine alloc_arr digT rfl rfl ?_
  rintro g2 w2 hg2 s2 b2 e2
  have h12 : g1 < g2 := by omega
  have hw1 : w.heap.size ≤ g1 := by omega
  have hg22 : g2 < w2.heap.size := by omega
  have B1 := hid (b1.below e2 h12); have B2 := hid b2
  have E2 := hid ((e1.trans (e2.mono (by omega))).mono hw1)
  clear b1 b2 e1 e2 hg1 hg2 s1 s2
  go_wp2_with (with_reducible refine halt_op (some 4) (.load _ _) (fun K hK => ?_))
  refine go_on hK ?_; clear hK
  refine load_arr digT rfl (.tmp 1) rfl rfl (unhid B1) SL.out ?_
  go_wp2_with fail
  refine (secrets_any seed _).mono ?_
  rintro e w3 ⟨gs, rfl, bs, hgs, hb3⟩
  have BS := hid bs
  have B3 := hid ((unhid B2).below hb3 hg22)
  have E3 := hid ((unhid E2).trans (hb3.mono (unhid E2).size))
  have hg23 : g2 < w3.heap.size := by have := hb3.size; omega
  clear bs hb3 B1 B2
  go_wp2_with fail
  refine (ends_any seed gs _ HS.out S8.out (unhid BS) ((unhid HL).below (unhid E3) h0) (by have := (unhid E3).size; omega)).mono ?_
  rintro e w4 ⟨rfl, hb4⟩
  have B4 := hid ((unhid B3).below hb4 hg23)
  have E4 := hid ((unhid E3).trans (hb4.mono (unhid E3).size))
  have hg24 : g2 < w4.heap.size := by have := hb4.size; omega
  have CB : Hid ((bytes (endsK seed 67).flatten).length = 2144) := by
    have := endsC_size seed 67
    unfold endsC at this
    rw [List.size_toArray] at this; exact this
  clear hb4 BS B3
  go_wp2_with (with_reducible refine halt_op (some 3) (.alloc _) (fun K hK => ?_))
  refine go_on hK ?_; clear hK
  refine alloc_row _ (endsZ seed) rfl rfl ?_
  rintro g3 w5 hg3 s5 b5 e5
  refine store_row endsT (vs := bytes (endsK seed 67).flatten) rfl (.tmp 3) (.tmp 6) rfl rfl rfl CB.out (bytes_one _) b5 (endsC_size seed 0) ?_
  intro w6 b6 g6
  have hE6 : Below g3 w4 w6 := e5.grown g6 (by omega) (fun q hq => by injection hq with hq; omega)
  have hg3e : g2 < g3 := by omega
  have R6 : Hid (Row w6 w6.heap.size 32 (some ⟨g3, 0, none⟩) 67 (bytes (endsK seed 67).flatten)) := by
    refine ⟨CB.out, fun _ => ⟨g3, 0, rfl, b6.lt', fun j hj => ?_⟩⟩
    rw [Nat.zero_add, b6.cell]; simp
  have B6 := hid ((unhid B4).below hE6 hg3e)
  have E6 := hid ((unhid E4).trans (hE6.mono (by have := (unhid E4).size; omega)))
  clear b5 e5 hg3 s5 b6 g6 hE6 B4
  go_wp2_with fail
  refine (of_any 7 (endsK seed 67) _ 67 67 _ _ (unhid R6) (endsK_len seed 67) (endsK_each seed 67) (Nat.le_refl _) (by omega) (by decide) (endsK_B8 seed 67) ((unhid HL).below (unhid E6) h0) (by have := (unhid E6).size; omega)).mono ?_
  rintro e w7 ⟨rfl, hb7⟩
  have B7 := hid ((unhid B6).below hb7 (unhid B6).lt')
  have E7 := hid ((unhid E6).trans (hb7.mono (unhid E6).size))
  clear hb7 B6
  go_wp2_with (with_reducible refine halt_op none (.store _ _ _) (fun K hK => ?_))
  refine go_on hK ?_; clear hK
  refine store_arr digT (l := up (pubN seed)) rfl (.tmp 2) (.tmp 8) rfl rfl rfl (sum_len_u _) (unhid B7) (by simp [cellsOf]) ?_
  intro w8 b8 g8
  have B8 := hid b8
  have E8 := hid ((unhid E7).grown g8 (unhid E7).size (fun q hq => by injection hq with hq; omega))
  clear b8 g8
  go_wp2_with fail
  exact bodyPost_ret (results_cell_row rfl _ _ g2 _ (cellsOf .u8 (up (pubN seed))) (0, 0) _ rfl (unhid B8) digT.under rfl (by rw [cellsOf_size, show (up (pubN seed)).length = 32 from sum_len_u _]; exact digT.size)) rfl ⟨rfl, unhid E8⟩
end Go.Proofs.YtibhhbjbfdbmdaaDoor

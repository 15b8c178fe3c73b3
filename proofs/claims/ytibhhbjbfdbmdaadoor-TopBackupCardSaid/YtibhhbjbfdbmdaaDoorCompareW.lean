/- The walks of bytes.Compare, cmp.Compare, cmp.Or and coin.Compare: what they tell, as a function of the places. -/
import Derived.Test.YtibhhbjbfdbmdaaDoorCoinW
import Derived.Test.YtibhhbjbfdbmdaaDoorRow
import Derived.Deep.RegionHeld3
namespace Go.Proofs.YtibhhbjbfdbmdaaDoor
set_option linter.unusedVariables false
set_option linter.unusedSimpArgs false
open Go.RowKit Go.Mny
/-- bytes as the model's array of them -/
def baPush (acc : ByteArray) : List Nat → ByteArray
  | [] => acc
  | x :: r => baPush (acc.push ((x : Int).toNat.toUInt8)) r
def baOf (l : List Nat) : ByteArray := baPush .empty l
theorem load_bytes {P : Program} (w : World) : ∀ (l : List Nat) (g o : Nat) (acc : ByteArray), (∀ j, j < l.length → w.cell? ⟨g, o + j, none⟩ = (bytes l)[j]?) →
    (Extern.Bytes.loadBytes ⟨g, o, none⟩ l.length acc).run P w = .ok (baPush acc l) w
  | [], g, o, acc, _ => by simp [Extern.Bytes.loadBytes, baPush]
  | x :: r, g, o, acc, h => by
    have h0 : w.cell? ⟨g, o, none⟩ = some (.int .u8 (x : Int)) := by
      have := h 0 (by simp)
      rw [Nat.add_zero] at this
      rw [this]; rfl
    have ih := load_bytes (P := P) w r g (o + 1) (acc.push ((x : Int).toNat.toUInt8)) (fun j hj => by
      have := h (j + 1) (by simp; omega)
      rw [show o + 1 + j = o + (j + 1) by omega, this]; rfl)
    rw [List.length_cons, Extern.Bytes.loadBytes, Sem.run_bind]
    have hl : (load ⟨g, o, none⟩).run P w = .ok (.int .u8 (x : Int)) w := by simp [go_sem, h0]
    rw [hl]
    simp only [Result.andThen_ok]
    have ha : (⟨g, o, none⟩ : Addr).add 1 = ⟨g, o + 1, none⟩ := rfl
    rw [ha]
    exact ih
theorem bytes_of_row {P : Program} {w : World} {D n c : Nat} {A : Option Addr} {l : List Nat} (h : Row w D 1 A n (bytes l)) : (Extern.Bytes.bytesOf (.slice A n c)).run P w = .ok (baOf l) w := by
  have hn : l.length = n := by have := h.len; rw [bytes_len] at this; omega
  by_cases h0 : 0 < n
  · obtain ⟨g, o, rfl, _, hc⟩ := h.cells h0
    subst hn
    exact load_bytes w l g o .empty (fun j hj => hc j (by rw [bytes_len]; exact hj))
  · have : l = [] := List.eq_nil_of_length_eq_zero (by omega)
    subst this
    simp only [List.length_nil] at hn
    subst hn
    cases A with
    | none => rfl
    | some a => rfl
/-- what bytes.Compare tells -/
def cmpB (a b : List Nat) : Int := Extern.BytealgCompare.cmp (baOf a) (baOf b)
theorem run_compare {P : Program} {w : World} {D D' n n' c c' : Nat} {A A' : Option Addr} {l l' : List Nat} (h : Row w D 1 A n (bytes l)) (h' : Row w D' 1 A' n' (bytes l')) :
    (Extern.BytealgCompare.compare #[.slice A n c, .slice A' n' c']).run P w = .ok (.int .i64 (cmpB l l')) w := by
  show ((do let x ← Extern.Bytes.bytesOf (.slice A n c); let y ← Extern.Bytes.bytesOf (.slice A' n' c'); pure (goInt (Extern.BytealgCompare.cmp x y))) : Sem Value).run P w = _
  simp only [Sem.run_bind, bytes_of_row h, bytes_of_row h', Result.andThen_ok, Sem.run_pure]
  rfl
set_option maxHeartbeats 1000000 in
set_option maxRecDepth 100000 in
theorem bytesCompare_any (a b : List Nat) (A A' : Option Addr) (n n' c c' D D' : Nat) (w : World) (h : Row w D 1 A n (bytes a)) (h' : Row w D' 1 A' n' (bytes b)) :
    Calls Tryd.prog 73 #[.slice A n c, .slice A' n' c'] w fun e w' => e = .returned (.int .i64 (cmpB a b)) ∧ w = w' := by
  have H := hid (run_compare (P := Tryd.prog) (c := c) (c' := c') h h')
  clear h h'
  go_enter Tryd.func73, Tryd.ntmps73
  go_wp2_with fail
  rw [run_callFunc_extern Tryd.func82 (by kernel_rfl) (by kernel_rfl) (by kernel_rfl) (e := Extern.BytealgCompare.compare) (by kernel_rfl), H.out]
  simp only [Result.andThen]
  rw [Oper.upon_value]
  go_wp2_with fail
  go_ret
  exact ⟨rfl, rfl⟩
def cmpN (a b : Int) : Int := if a < b then -1 else if b < a then 1 else 0
def orN (a b : Int) : Int := if a ≠ 0 then a else b
theorem compare_any (a b : Int) (w : World) : Calls Tryd.prog 74 #[.int .i64 a, .int .i64 b] w fun e w' => e = .returned (.int .i64 (cmpN a b)) ∧ w = w' := by
  by_cases h1 : a < b
  · have hc : cmpN a b = -1 := by unfold cmpN; rw [if_pos h1]
    rw [hc]
    clear hc
    go_enter Tryd.func74, Tryd.ntmps74
    go_wp2
    go_ret
    exact ⟨rfl, rfl⟩
  by_cases h2 : b < a
  · have hc : cmpN a b = 1 := by unfold cmpN; rw [if_neg h1, if_pos h2]
    rw [hc]
    clear hc
    go_enter Tryd.func74, Tryd.ntmps74
    go_wp2
    go_ret
    exact ⟨rfl, rfl⟩
  · have hc : cmpN a b = 0 := by unfold cmpN; rw [if_neg h1, if_neg h2]
    rw [hc]
    clear hc
    go_enter Tryd.func74, Tryd.ntmps74
    go_wp2
    go_ret
    exact ⟨rfl, rfl⟩
theorem or_any (g : Nat) (a b : Int) (w : World) (h0 : w.cell? ⟨g, 0, none⟩ = some (.int .i64 a)) (h1 : w.cell? ⟨g, 1, none⟩ = some (.int .i64 b)) :
    Calls Tryd.prog 72 #[.slice (some ⟨g, 0, none⟩) 2 2] w fun e w' => e = .returned (.int .i64 (orN a b)) ∧ w = w' := by
  have H0 := hid h0; have H1 := hid h1
  clear h0 h1
  go_enter Tryd.func72, Tryd.ntmps72
  go_wp2_with fail
  go_loop [8] (fun v8 => ∃ i : Nat, i ≤ 2 ∧ v8 = .int .i64 i ∧ Hid (1 ≤ i → a = 0) ∧ Hid (2 ≤ i → b = 0)) (fun v8 => 2 - (intOf v8).toNat)
  case atStart => exact ⟨0, by omega, rfl, hid (fun h => by omega), hid (fun h => by omega)⟩
  case round =>
    obtain ⟨i, hi, rfl, HA, HB⟩ := hrel
    by_cases h0 : i = 0
    · subst h0
      have c0 := H0.out
      by_cases ha : a = 0
      · have t1 : (a != 0) = false := by simp; exact ha
        have HA0 := hid ha
        clear ha
        go_wp2_with fail
        go_round
        case rel => exact ⟨1, by omega, rfl, hid (fun _ => HA0.out), hid (fun h => by omega)⟩
        case measure => simp [intOf]
      · have t1 : (a != 0) = true := by simp; exact ha
        have hor : orN a b = a := by unfold orN; rw [if_pos ha]
        have HOR := hid hor
        clear ha hor
        go_wp2_with fail
        go_ret
        exact ⟨by rw [HOR.out]; rfl, rfl⟩
    by_cases h1 : i = 1
    · subst h1
      have c1 := H1.out
      have ha := HA.out (Nat.le_refl _)
      have hor : orN a b = b := by unfold orN; rw [if_neg (by rw [ha]; decide)]
      have HOR := hid hor
      clear ha hor
      by_cases hb : b = 0
      · have t1 : (b != 0) = false := by simp; exact hb
        have HB0 := hid hb
        clear hb
        go_wp2_with fail
        go_round
        case rel => exact ⟨2, by omega, rfl, hid (fun _ => HA.out (Nat.le_refl _)), hid (fun _ => HB0.out)⟩
        case measure => simp [intOf]
      · have t1 : (b != 0) = true := by simp; exact hb
        clear hb
        go_wp2_with fail
        go_ret
        exact ⟨by rw [HOR.out]; rfl, rfl⟩
    · have h2 : i = 2 := by omega
      subst h2
      have hor : orN a b = 0 := by unfold orN; rw [HA.out (by omega), HB.out (by omega)]; rfl
      have HOR := hid hor
      clear hor
      go_wp2_with fail
      go_ret
      exact ⟨by rw [HOR.out]; rfl, rfl⟩
def plc (tx : List Nat) (x : Int) : List Value := bytes tx ++ [Value.int .i64 x]
def placeV (tx : List Nat) (at_ : Int) : Value := .agg (plc tx at_).toArray
def placeN (a : List Nat) (x : Int) (b : List Nat) (y : Int) : Int := orN (cmpB a b) (cmpN x y)
theorem Blk.ptx {w : World} {g e : Nat} {tx : List Nat} {x : Int} (h : Blk w g e (plc tx x).toArray) (hd : tx.length = 32) : Row w w.heap.size 1 (some ⟨g, 0, none⟩) 32 (bytes tx) := by
  refine ⟨by rw [bytes_len, hd], fun _ => ⟨g, 0, rfl, h.lt', fun j hj => ?_⟩⟩
  rw [h.cell, Nat.zero_add, List.getElem?_toArray]
  exact List.getElem?_append_left hj
theorem Blk.pat {w : World} {g e : Nat} {tx : List Nat} {x : Int} (h : Blk w g e (plc tx x).toArray) (hd : tx.length = 32) : w.cell? ⟨g, 32, none⟩ = some (.int .i64 x) := by
  rw [h.cell, List.getElem?_toArray]
  unfold plc
  rw [List.getElem?_append_right (by rw [bytes_len, hd]; exact Nat.le_refl _), bytes_len, hd]; rfl
set_option maxHeartbeats 4000000 in
set_option maxRecDepth 100000 in
theorem place_any (a b : List Nat) (x y : Int) (w : World) (ha : a.length = 32) (hb : b.length = 32) :
    Calls Tryd.prog 58 #[placeV a x, placeV b y] w fun e w' => e = .returned (.int .i64 (placeN a x b y)) ∧ Below w.heap.size w w' := by
  have HA := hid ha; have HB := hid hb
  clear ha hb
  unfold placeV
  go_enter Tryd.func58, Tryd.ntmps58
  go_wp2_with (with_reducible refine halt_op (some 2) (.box _ _) (fun K hK => ?_))
  refine go_on hK ?_; clear hK
  refine box_row (cs := (plc a x).toArray) rfl (.tmp 0) rfl rfl ?_
  rintro g2 w1 hg2 s1 b1 e1
  go_wp2_with (with_reducible refine halt_op (some 3) (.box _ _) (fun K hK => ?_))
  refine go_on hK ?_; clear hK
  refine box_row (cs := (plc b y).toArray) rfl (.tmp 1) rfl rfl ?_
  rintro g3 w3 hg3 s3 b3 e3
  have B1 := b1.below e3 (by omega)
  have h2 : g2 < w3.heap.size := by omega
  have h3 : g3 < w3.heap.size := by omega
  have E3 := hid ((e1.trans (e3.mono (by omega))).mono (show w.heap.size ≤ g2 by omega))
  have RA : Hid (Hid (∀ W, Below w3.heap.size w3 W → Row W W.heap.size 1 (some ⟨g2, 0, none⟩) 32 (bytes a))) := fun W h => Blk.ptx (B1.below h h2) HA.out
  have RB : Hid (Hid (∀ W, Below w3.heap.size w3 W → Row W W.heap.size 1 (some ⟨g3, 0, none⟩) 32 (bytes b))) := fun W h => Blk.ptx (b3.below h h3) HB.out
  have CA : Hid (∀ W, Below w3.heap.size w3 W → W.cell? ⟨g2, 32, none⟩ = some (.int .i64 x)) := fun W h => Blk.pat (B1.below h h2) HA.out
  have CB : Hid (∀ W, Below w3.heap.size w3 W → W.cell? ⟨g3, 32, none⟩ = some (.int .i64 y)) := fun W h => Blk.pat (b3.below h h3) HB.out
  clear b1 b3 e1 e3 hg2 hg3 s1 s3 B1
  go_wp2_with fail
  refine wp_region_held_drew (S := fun w' => Below w3.heap.size w3 w') (by kernel_rfl) ((Below.refl _ _).drew) (fun hS => ?_)
  refine wpAnyH_take (i := 0) (oi := { dst := some 5, op := Op.fieldAddr 84 (Operand.tmp 2) 0, type := 0, pos := "coin.go:17", after := #[], guard := none }) (v := .pointer (some ⟨g2, 0, none⟩)) rfl (by kernel_rfl) (by kernel_rfl) (by kernel_rfl) (fun _ _ _ h => h) (yields_of rfl (fun w => by go_simp)) hS ?_
  try simp only [Act.put, List.setIfInBounds_toArray, List.set_cons_zero, List.set_cons_succ]
  refine wpAnyH_take (i := 1) (oi := { dst := some 6, op := Op.slice 23 (Operand.tmp 5) none none none, type := 37, pos := "coin.go:17", after := #[{ on := 0, ground := Ground.data }], guard := none }) (v := .slice (some ⟨g2, 0, none⟩) 32 32) rfl (by kernel_rfl) (by kernel_rfl) (by kernel_rfl) (fun _ _ _ h => h) (yields_of rfl (fun w => by go_simp)) hS ?_
  try simp only [Act.put, List.setIfInBounds_toArray, List.set_cons_zero, List.set_cons_succ]
  refine wpAnyH_take (i := 2) (oi := { dst := some 7, op := Op.fieldAddr 84 (Operand.tmp 3) 0, type := 0, pos := "coin.go:17", after := #[], guard := none }) (v := .pointer (some ⟨g3, 0, none⟩)) rfl (by kernel_rfl) (by kernel_rfl) (by kernel_rfl) (fun _ _ _ h => h) (yields_of rfl (fun w => by go_simp)) hS ?_
  try simp only [Act.put, List.setIfInBounds_toArray, List.set_cons_zero, List.set_cons_succ]
  refine wpAnyH_take (i := 3) (oi := { dst := some 8, op := Op.slice 23 (Operand.tmp 7) none none none, type := 37, pos := "coin.go:17", after := #[{ on := 2, ground := Ground.data }], guard := none }) (v := .slice (some ⟨g3, 0, none⟩) 32 32) rfl (by kernel_rfl) (by kernel_rfl) (by kernel_rfl) (fun _ _ _ h => h) (yields_of rfl (fun w => by go_simp)) hS ?_
  try simp only [Act.put, List.setIfInBounds_toArray, List.set_cons_zero, List.set_cons_succ]
  refine wpAnyH_take (i := 5) (oi := { dst := some 10, op := Op.fieldAddr 84 (Operand.tmp 2) 1, type := 0, pos := "coin.go:17", after := #[], guard := none }) (v := .pointer (some ⟨g2, 32, none⟩)) rfl (by kernel_rfl) (by kernel_rfl) (by kernel_rfl) (fun _ _ _ h => h) (yields_of rfl (fun w => by go_simp)) hS ?_
  try simp only [Act.put, List.setIfInBounds_toArray, List.set_cons_zero, List.set_cons_succ]
  refine wpAnyH_take (i := 6) (oi := { dst := some 11, op := Op.load 3 (Operand.tmp 10), type := 3, pos := "coin.go:17", after := #[{ on := 5, ground := Ground.data }], guard := none }) (v := .int .i64 x) rfl (by kernel_rfl) (by kernel_rfl) (by kernel_rfl) (fun _ _ _ h => h) (.inl ⟨rfl, fun w h => by have e := CA.out w h; go_simp⟩) hS ?_
  try simp only [Act.put, List.setIfInBounds_toArray, List.set_cons_zero, List.set_cons_succ]
  refine wpAnyH_take (i := 7) (oi := { dst := some 12, op := Op.fieldAddr 84 (Operand.tmp 3) 1, type := 0, pos := "coin.go:17", after := #[], guard := none }) (v := .pointer (some ⟨g3, 32, none⟩)) rfl (by kernel_rfl) (by kernel_rfl) (by kernel_rfl) (fun _ _ _ h => h) (yields_of rfl (fun w => by go_simp)) hS ?_
  try simp only [Act.put, List.setIfInBounds_toArray, List.set_cons_zero, List.set_cons_succ]
  refine wpAnyH_take (i := 8) (oi := { dst := some 13, op := Op.load 3 (Operand.tmp 12), type := 3, pos := "coin.go:17", after := #[{ on := 7, ground := Ground.data }], guard := none }) (v := .int .i64 y) rfl (by kernel_rfl) (by kernel_rfl) (by kernel_rfl) (fun _ _ _ h => h) (.inl ⟨rfl, fun w h => by have e := CB.out w h; go_simp⟩) hS ?_
  try simp only [Act.put, List.setIfInBounds_toArray, List.set_cons_zero, List.set_cons_succ]
  have hbd : Below w3.heap.size w3 w3.drew := (Below.refl _ _).drew
  obtain ⟨w3d, hw3d⟩ : ∃ W, W = w3.drew := ⟨_, rfl⟩
  rw [← hw3d] at hbd
  rw [← hw3d]
  clear hw3d hS
  refine wpAnyH_ready (rs := [4]) (by kernel_rfl) (by simp) ?_
  refine AllReadyH.cons (o := _) rfl (fun K hK => ?_) AllReadyH.nil
  go_simp
  refine (bytesCompare_any a b _ _ 32 32 32 32 _ _ _ ((unhid RA).out w3d hbd) ((unhid RB).out w3d hbd)).mono ?_
  rintro e w4 ⟨rfl, rfl⟩
  go_wp2_with fail
  refine hK.out _ _ hbd (fun _ => ?_)
  refine wpAnyH_ready (rs := [9]) (by kernel_rfl) (by simp) ?_
  refine AllReadyH.cons (o := _) rfl (fun K hK => ?_) AllReadyH.nil
  go_simp
  refine (compare_any x y _).mono ?_
  rintro e w4 ⟨rfl, rfl⟩
  go_wp2_with fail
  refine hK.out _ _ hbd (fun _ => ?_)
  refine wpAnyH_ready (rs := [10]) (by kernel_rfl) (by simp) ?_
  refine AllReadyH.cons (o := _) rfl (fun K hK => ?_) AllReadyH.nil
  go_simp
  have hb5 := hbd.alloc hbd.size (.cells #[.int .i64 (cmpB a b), .int .i64 (cmpN x y)] 3)
  refine hK.out _ _ hb5 (fun _ => ?_)
  refine wpAnyH_ready (rs := [11]) (by kernel_rfl) (by simp) ?_
  refine AllReadyH.cons (o := _) rfl (fun K hK => ?_) AllReadyH.nil
  go_simp
  refine (or_any w3d.heap.size (cmpB a b) (cmpN x y) _ (by rw [cell_of_row _ _ 0 _ _ (0, 0) (heap_alloc_new w3d _)]; rfl) (by rw [cell_of_row _ _ 1 _ _ (0, 0) (heap_alloc_new w3d _)]; rfl)).mono ?_
  rintro e w4 ⟨rfl, rfl⟩
  go_wp2_with fail
  refine hK.out _ _ hb5 (fun _ => ?_)
  refine wpAnyH_ready (rs := [12]) (by kernel_rfl) (by simp) ?_
  refine AllReadyH.cons (o := _) rfl (fun K hK => ?_) AllReadyH.nil
  go_simp
  refine hK.out _ _ hb5 (fun _ => ?_)
  refine wpAnyH_done (by kernel_rfl) ?_ _
  go_wp2_with fail
  go_ret
  exact ⟨rfl, (unhid E3).trans (hb5.mono (unhid E3).size)⟩
end Go.Proofs.YtibhhbjbfdbmdaaDoor

/- The walks of bytes.Equal, wallet.same, wallet.owns and what they call; of wallet.locks and wallet.Owns at one key. -/
import Derived.Test.YtibhhbjbfdbmdaaDoorWalLockW
import Derived.Test.YtibhhbjbfdbmdaaDoorLockCW
import Derived.Laws.BytesArg
namespace Go.Proofs.YtibhhbjbfdbmdaaDoor
set_option linter.unusedVariables false
set_option linter.unusedSimpArgs false
open Go.RowKit Go.Mny
/-- the string of bytes -/
def strB (l : List Nat) : ByteArray := if l.length = 0 then ByteArray.empty else strOfNums (up l)
theorem conv_row {w : World} {D n c : Nat} {A : Option Addr} {l : List Nat} (h : Row w D 1 A n (bytes l)) : (convert 37 9 (.slice A n c)).run Tryd.prog w = .ok (.string (strB l)) w := by
  have hn : l.length = n := by have := h.len; rw [bytes_len] at this; omega
  by_cases h0 : 0 < n
  · obtain ⟨g, o, rfl, _, hc⟩ := h.cells h0
    unfold strB
    rw [if_neg (by omega)]
    refine run_convert_bytes_arg w 37 5 Tryd.underlying37 Tryd.underlying5 g o n c (up l) (by rw [up_len, hn]) (fun i hi => ?_) _ Tryd.underlying9
    have hl : i < (up l).length := by rw [up_len, hn]; exact hi
    rw [hc i (by rw [bytes_len, hn]; exact hi), List.getElem?_map, List.getElem?_eq_getElem hl]
    simp [List.getElem?_eq_getElem hl]
  · have hn0 : n = 0 := by omega
    subst hn0
    unfold strB
    rw [if_pos hn]
    rw [run_convert_bytes_string w 37 9 5 A 0 c Tryd.underlying37 Tryd.underlying5 Tryd.underlying9]
    cases A with
    | none => simp [Conv.bytesToString]
    | some a => simp [Conv.bytesToString, loadCells]; rfl
def eqB (a b : List Nat) : Bool := (strB a).toList == (strB b).toList
theorem eqB_refl (a : List Nat) : eqB a a = true := by unfold eqB; exact beq_self_eq_true _
set_option maxHeartbeats 1000000 in
set_option maxRecDepth 100000 in
theorem bytesEqual_any (a b : List Nat) (A A' : Option Addr) (n n' c c' D D' : Nat) (w : World) (h : Row w D 1 A n (bytes a)) (h' : Row w D' 1 A' n' (bytes b)) :
    Calls Tryd.prog 46 #[.slice A n c, .slice A' n' c'] w fun e w' => e = .returned (.bool (eqB a b)) ∧ w = w' := by
  have H1 := conv_row (c := c) h; have H2 := conv_row (c := c') h'
  have HE := hid (show eqB a b = ((strB a).toList == (strB b).toList) from rfl)
  clear h h'
  go_enter Tryd.func46, Tryd.ntmps46
  go_wp2_with fail
  go_ret
  exact ⟨by rw [HE.out]; rfl, rfl⟩
def sameO (x y : OpC) : Bool := (x.op == y.op && x.n == y.n) && eqB x.d y.d
theorem sameO_refl (x : OpC) : sameO x x = true := by unfold sameO; rw [eqB_refl]; simp
theorem Blk.opcs {w : World} {g e : Nat} {o : OpC} (h : Blk w g e (oc o).toArray) : w.cell? ⟨g, 0, none⟩ = some (.int .i64 o.op) ∧ w.cell? ⟨g, 1, none⟩ = some (.int .i64 o.n) ∧ w.cell? ⟨g, 2, none⟩ = some (.slice o.A o.len o.cap) := by
  refine ⟨?_, ?_, ?_⟩ <;> (rw [h.cell]; rfl)
set_option maxHeartbeats 4000000 in
set_option maxRecDepth 100000 in
theorem same1_any (x y : OpC) (D : Nat) (w : World) (hx : OpOk w D x) (hy : OpOk w D y) (hD : D ≤ w.heap.size) :
    Calls Tryd.prog 45 #[.agg (oc x).toArray, .agg (oc y).toArray] w fun e w' => e = .returned (.bool (sameO x y)) ∧ Below w.heap.size w w' := by
  have RX := hid hx.row; have RY := hid hy.row
  have HS := hid (show sameO x y = ((x.op == y.op && x.n == y.n) && eqB x.d y.d) from rfl)
  obtain ⟨a, ha⟩ : ∃ a, x.op = a := ⟨_, rfl⟩
  obtain ⟨b, hb⟩ : ∃ b, y.op = b := ⟨_, rfl⟩
  obtain ⟨p, hp⟩ : ∃ p, x.n = p := ⟨_, rfl⟩
  obtain ⟨q, hq⟩ : ∃ q, y.n = q := ⟨_, rfl⟩
  rw [ha, hb, hp, hq] at HS
  have HA := hid ha; have HB := hid hb; have HP := hid hp; have HQ := hid hq
  clear hx hy ha hb hp hq
  go_enter Tryd.func45, Tryd.ntmps45
  go_wp2_with (with_reducible refine halt_op (some 2) (.box _ _) (fun K hK => ?_))
  refine go_on hK ?_; clear hK
  refine box_row (cs := (oc x).toArray) rfl (.tmp 0) rfl rfl ?_
  rintro g2 w1 hg2 s1 b1 e1
  go_wp2_with (with_reducible refine halt_op (some 3) (.box _ _) (fun K hK => ?_))
  refine go_on hK ?_; clear hK
  refine box_row (cs := (oc y).toArray) rfl (.tmp 1) rfl rfl ?_
  rintro g3 w3 hg3 s3 b3 e3
  have E3 := hid ((e1.trans (e3.mono (by omega))).mono (show w.heap.size ≤ g2 by omega))
  obtain ⟨c20, c21, c22⟩ := Blk.opcs (b1.below e3 (by omega))
  obtain ⟨c30, c31, c32⟩ := Blk.opcs b3
  rw [HA.out] at c20; rw [HP.out] at c21; rw [HB.out] at c30; rw [HQ.out] at c31
  have CE := hid (bytesEqual_any x.d y.d x.A y.A x.len y.len x.cap y.cap D D w3 ((unhid RX).below ((unhid E3).mono hD)) ((unhid RY).below ((unhid E3).mono hD)))
  clear b1 b3 e1 e3 hg2 hg3 s1 s3 RX RY
  by_cases h1 : a = b
  · by_cases h2 : p = q
    · have t1 : (a == b) = true := by simpa using h1
      have t2 : (p == q) = true := by simpa using h2
      have HR : Hid (sameO x y = eqB x.d y.d) := by show _ = _; rw [HS.out, t1, t2]; rfl
      clear h1 h2 HA HB HP HQ
      go_wp2_with fail
      refine (unhid CE).mono ?_
      rintro e w' ⟨rfl, rfl⟩
      rw [← HR.out]
      go_wp2_with fail
      go_ret
      exact ⟨rfl, unhid E3⟩
    · have t1 : (a == b) = true := by simpa using h1
      have t2 : (p == q) = false := by simpa using h2
      have HR : Hid (sameO x y = false) := by show _ = _; rw [HS.out, t1, t2]; rfl
      clear h1 h2 HA HB HP HQ
      go_wp2_with fail
      go_ret
      exact ⟨by rw [HR.out]; rfl, unhid E3⟩
  · have t1 : (a == b) = false := by simpa using h1
    have HR : Hid (sameO x y = false) := by show _ = _; rw [HS.out, t1]; rfl
    clear h1 HA HB HP HQ
    go_wp2_with fail
    go_ret
    exact ⟨by rw [HR.out]; rfl, unhid E3⟩
def sameL : List OpC → List OpC → Bool
  | [], [] => true
  | x :: r, y :: s => if sameO x y = true then sameL r s else false
  | _, _ => false
theorem sameL_refl : ∀ l : List OpC, sameL l l = true
  | [] => rfl
  | x :: r => by unfold sameL; rw [if_pos (sameO_refl x)]; exact sameL_refl r
theorem sameL_len : ∀ (l m : List OpC), l.length ≠ m.length → sameL l m = false
  | [], [], h => absurd rfl h
  | [], _ :: _, _ => rfl
  | _ :: _, [], _ => rfl
  | x :: r, y :: s, h => by
    unfold sameL
    split
    · exact sameL_len r s (by simpa using h)
    · rfl
def eqF : Value := .func (.func 45) #[] #[]
set_option maxHeartbeats 4000000 in
set_option maxRecDepth 100000 in
theorem equalFunc_any (l m : List OpC) (A A' : Option Addr) (n c n' c' D : Nat) (w : World) (h : Ops w D A n l) (h' : Ops w D A' n' m) (hD : D ≤ w.heap.size) (hn : n ≤ 1048576) :
    Calls Tryd.prog 44 #[.slice A n c, .slice A' n' c', eqF] w fun e w' => e = .returned (.bool (sameL l m)) ∧ Below w.heap.size w w' := by
  have hl := h.len; have hm := h'.len
  have H := hid h; have H' := hid h'
  clear h h'
  unfold eqF
  by_cases hnn : n = n'
  case neg =>
    have HR : Hid (sameL l m = false) := sameL_len l m (by rw [hl, hm]; exact hnn)
    have t1 : ((n : Int) != (n' : Int)) = true := by simp; omega
    clear hnn hl hm
    go_enter Tryd.func44, Tryd.ntmps44
    go_wp2_with fail
    go_ret
    exact ⟨by rw [HR.out]; rfl, Below.refl _ _⟩
  case pos =>
  subst hnn
  have HLL := hid hl; have HML := hid hm
  clear hl hm
  go_enter Tryd.func44, Tryd.ntmps44
  go_wp2_with fail
  go_loopw [17] (fun v17 wr => ∃ i : Nat, i ≤ n ∧ v17 = .int .i64 (i : Int) ∧ Hid (sameL l m = sameL (l.drop i) (m.drop i)) ∧ Hid (Below w.heap.size w wr)) (fun v17 _ => n - (intOf v17).toNat)
  case atStart => exact ⟨0, Nat.zero_le _, rfl, rfl, Below.refl _ _⟩
  case round =>
    obtain ⟨i, hi, rfl, HS, HB⟩ := hrel
    have hsz := (unhid HB).size
    by_cases hlt : i < n
    · obtain ⟨g, q, x, rfl, hg, hx, hrg, hok⟩ := ((unhid H).below ((unhid HB).mono hD)).get hlt
      obtain ⟨g', q', y, rfl, hg', hy, hrg', hok'⟩ := ((unhid H').below ((unhid HB).mono hD)).get hlt
      have i2 : (i : Int) < (n : Int) := by omega
      have hdrop : ∀ (k : List OpC) (z : OpC), k[i]? = some z → k.drop i = z :: k.drop (i + 1) := fun k z hz => by
        obtain ⟨hi, rfl⟩ := List.getElem?_eq_some_iff.1 hz
        exact List.drop_eq_getElem_cons hi
      have HN : Hid (sameL l m = if sameO x y = true then sameL (l.drop (i + 1)) (m.drop (i + 1)) else false) := by
        show _ = _
        rw [HS.out, hdrop l x hx.out, hdrop m y hy.out]; rfl
      obtain ⟨wk, hwk⟩ : ∃ wk : World, wk = wr := ⟨_, rfl⟩
      rw [← hwk] at HB hsz hrg hrg' hok hok'
      rw [← hwk]
      clear hwk HS hdrop
      go_wp2_with (with_reducible refine halt_op (some 21) (.load _ _) (fun K hK => ?_))
      refine go_on hK ?_; clear hK
      refine load_mid opT rfl (.tmp 20) rfl rfl (unhid hrg) (oc_len x) ?_
      go_wp2_with (with_reducible refine halt_op (some 8) (.alloc _) (fun K hK => ?_))
      refine go_on hK ?_; clear hK
      refine alloc_row _ opZ rfl rfl ?_
      rintro g8 w4 hg8 s4 b4 e4
      have h8 : wk.heap.size ≤ g8 := by omega
      clear hg8 s4
      go_wp2_with (with_reducible refine halt_op none (.store _ _ _) (fun K hK => ?_))
      refine go_on hK ?_; clear hK
      refine store_row opT (vs := oc x) rfl (.tmp 8) (.tmp 21) rfl rfl rfl (oc_len x) (oc_one x) b4 rfl ?_
      intro w5 b5 g5
      have E5 : Below wk.heap.size wk w5 := (e4.grown g5 (by have := b4.lt'; omega) (fun q hq => by injection hq with hq; omega)).mono h8
      have B5 := hid b5
      have hrg5 : Hid (w5.rangeAt g' (q' + i * 3) (oc y)) := fun j v hv => by
        rw [E5.cell (p := ⟨g', q' + i * 3 + j, none⟩) (show g' < wk.heap.size by omega)]; exact hrg'.out j v hv
      have HB5 := hid ((unhid HB).trans (E5.mono hsz))
      have h85 : g8 < w5.heap.size := b5.lt'
      have OX := hid ((unhid hok).below (E5.mono (by omega)))
      have OY := hid ((unhid hok').below (E5.mono (by omega)))
      clear b4 e4 b5 g5 E5 hrg hrg' HB hok hok'
      go_wp2_with (with_reducible refine halt_op (some 25) (.load _ _) (fun K hK => ?_))
      refine go_on hK ?_; clear hK
      refine load_mid opT rfl (.tmp 24) rfl rfl (unhid hrg5) (oc_len y) ?_
      go_wp2_with (with_reducible refine halt_op (some 9) (.alloc _) (fun K hK => ?_))
      refine go_on hK ?_; clear hK
      refine alloc_row _ opZ rfl rfl ?_
      rintro g9 w6 hg9 s6 b6 e6
      have h9 : w5.heap.size ≤ g9 := by omega
      refine store_row opT (vs := oc y) rfl (.tmp 9) (.tmp 25) rfl rfl rfl (oc_len y) (oc_one y) b6 rfl ?_
      intro w7 b7 g7
      have E7 : Below g9 w5 w7 := e6.grown g7 (by have := b6.lt'; omega) (fun q hq => by injection hq with hq; omega)
      have B7 := hid b7
      have C7 := hid ((unhid B5).below E7 (by omega))
      have HB7 := hid ((unhid HB5).trans (E7.mono (by have := (unhid HB5).size; omega)))
      have OX7 := hid ((unhid OX).below (E7.mono (by have := (unhid HB5).size; omega)))
      have OY7 := hid ((unhid OY).below (E7.mono (by have := (unhid HB5).size; omega)))
      clear b6 e6 hg9 s6 b7 g7 E7 hrg5 B5 HB5 OX OY
      go_wp2_with (with_reducible refine halt_op (some 27) (.load _ _) (fun K hK => ?_))
      refine go_on hK ?_; clear hK
      refine load_row opT rfl (.tmp 8) rfl rfl (unhid C7) (oc_len x) ?_
      refine load_row opT rfl (.tmp 9) rfl rfl (unhid B7) (oc_len y) ?_
      go_wp2_with fail
      refine (same1_any x y D _ (unhid OX7) (unhid OY7) (by have := (unhid HB7).size; omega)).mono ?_
      rintro e w8 ⟨rfl, hq8⟩
      have HB8 := hid ((unhid HB7).trans (hq8.mono (unhid HB7).size))
      obtain ⟨b, hb⟩ : ∃ b, sameO x y = b := ⟨_, rfl⟩
      rw [hb] at HN
      rw [hb]
      clear hq8 hb HB7 C7 B7 OX7 OY7
      cases b
      · have HR : Hid (sameL l m = false) := by show _ = _; rw [HN.out, if_neg (by decide)]
        go_wp2_with fail
        go_ret
        exact ⟨by rw [HR.out]; rfl, unhid HB8⟩
      · have HR : Hid (sameL l m = sameL (l.drop (i + 1)) (m.drop (i + 1))) := by show _ = _; rw [HN.out, if_pos rfl]
        go_wp2_with fail
        go_roundw
        case rel => exact ⟨i + 1, by omega, by go_num, HR, HB8⟩
        case measure => simp [intOf]; omega
    · have hin : i = n := by omega
      subst hin
      have HR : Hid (sameL l m = true) := by
        show _ = _
        rw [HS.out, List.drop_of_length_le (by rw [HLL.out]; exact Nat.le_refl _), List.drop_of_length_le (by rw [HML.out]; exact Nat.le_refl _)]; rfl
      go_wp2_with fail
      go_ret
      exact ⟨by rw [HR.out]; rfl, unhid HB⟩
theorem same_any (l m : List OpC) (A A' : Option Addr) (n c n' c' D : Nat) (w : World) (h : Ops w D A n l) (h' : Ops w D A' n' m) (hD : D ≤ w.heap.size) (hn : n ≤ 1048576) :
    Calls Tryd.prog 26 #[.slice A n c, .slice A' n' c'] w fun e w' => e = .returned (.bool (sameL l m)) ∧ Below w.heap.size w w' := by
  have C := hid (equalFunc_any l m A A' n c n' c' D w h h' hD hn)
  unfold eqF at C
  clear h h'
  go_enter Tryd.func26, Tryd.ntmps26
  go_wp2_with fail
  refine (unhid C).mono ?_
  rintro e w' ⟨rfl, hb⟩
  have HB := hid hb
  clear hb C
  go_wp2_with fail
  go_ret
  exact ⟨rfl, unhid HB⟩
end Go.Proofs.YtibhhbjbfdbmdaaDoor
namespace Go.Proofs.YtibhhbjbfdbmdaaDoor
set_option linter.unusedVariables false
set_option linter.unusedSimpArgs false
open Go.RowKit Go.Mny
def ownI (l m : List OpC) : Int := if sameL l m = true then 0 else -1
theorem sameL_lock (g g' : Nat) (seed : List Nat) (m : List OpC) : sameL (lockOps g seed) m = sameL (lockOps g' seed) m := by
  unfold lockOps
  cases m with
  | nil => rfl
  | cons y s => cases s with
    | nil => rfl
    | cons z t => rfl
theorem ownI_lock (g g' : Nat) (seed : List Nat) (m : List OpC) : ownI (lockOps g seed) m = ownI (lockOps g' seed) m := by unfold ownI; rw [sameL_lock g g']
theorem owns1_any (l m : List OpC) (A A' : Option Addr) (n c n' c' D g : Nat) (w : World) (h : Ops w D A n l) (h' : Ops w D A' n' m) (hD : D ≤ w.heap.size) (hn : n ≤ 1048576) (hc : w.cell? ⟨g, 1, none⟩ = some (.slice A' n' c')) :
    Calls Tryd.prog 25 #[.slice A n c, .pointer (some ⟨g, 0, none⟩)] w fun e w' => e = .returned (.bool (sameL l m)) ∧ Below w.heap.size w w' := by
  have C := hid (same_any l m A A' n c n' c' D w h h' hD hn)
  clear h h'
  go_enter Tryd.func25, Tryd.ntmps25
  go_wp2_with fail
  refine (unhid C).mono ?_
  rintro e w' ⟨rfl, hb⟩
  have HB := hid hb
  clear hb C hc
  go_wp2_with fail
  go_ret
  exact ⟨rfl, unhid HB⟩
def ownF (g : Nat) : Value := .func (.func 25) #[] #[.pointer (some ⟨g, 0, none⟩)]
set_option maxHeartbeats 1000000 in
set_option maxRecDepth 100000 in
theorem indexOps_any (l m : List OpC) (AL A A' : Option Addr) (cL n c n' c' D g : Nat) (w : World) (hL : Row w D 1 AL 1 [.slice A n c]) (h : Ops w D A n l) (h' : Ops w D A' n' m) (hD : D ≤ w.heap.size) (hn : n ≤ 1048576) (hc : w.cell? ⟨g, 1, none⟩ = some (.slice A' n' c')) :
    Calls Tryd.prog 24 #[.slice AL 1 cL, ownF g] w fun e w' => e = .returned (.int .i64 (ownI l m)) ∧ Below w.heap.size w w' := by
  have C := hid (owns1_any l m A A' n c n' c' D g w h h' hD hn hc)
  obtain ⟨gl, o, rfl, hg, hcell⟩ := hL.cells (by decide)
  have c0 : w.cell? ⟨gl, o, none⟩ = some (.slice A n c) := by have := hcell 0 (by simp); simpa using this
  have HO := hid (show ownI l m = if sameL l m = true then 0 else -1 from rfl)
  obtain ⟨b, hb⟩ : ∃ b, sameL l m = b := ⟨_, rfl⟩
  rw [hb] at C HO
  clear hL h h' hc hcell hb
  unfold ownF
  go_enter Tryd.func24, Tryd.ntmps24
  go_wp2_with fail
  refine wp_loop_rounds 2 ?_
  rw [rounds_succ]
  go_wp2_with fail
  refine (unhid C).mono ?_
  rintro e w1 ⟨rfl, hb1⟩
  have B1 := hid hb1
  clear hb1 C c0
  cases b
  · go_wp2_with fail
    rw [rounds_succ]
    go_wp2_with fail
    go_ret
    exact ⟨by rw [HO.out]; rfl, unhid B1⟩
  · go_wp2_with fail
    go_ret
    exact ⟨by rw [HO.out]; rfl, unhid B1⟩
theorem outRT : RowT Tryd.prog 31 2 := ⟨⟨_, Tryd.underlying31, rfl⟩, by kernel_rfl⟩
def outL (amt : Int) (A : Option Addr) (n c : Nat) : List Value := [.int .i64 amt, .slice A n c]
def LocksR (w : World) (D : Nat) (AL : Option Addr) (l : List OpC) : Prop := ∃ A n c, Row w D 1 AL 1 [.slice A n c] ∧ Ops w D A n l ∧ n ≤ 1048576
theorem LocksR.below {w w' : World} {D : Nat} {AL : Option Addr} {l : List OpC} (h : LocksR w D AL l) (hb : Below D w w') : LocksR w' D AL l := by
  obtain ⟨A, n, c, h1, h2, h3⟩ := h
  exact ⟨A, n, c, h1.below hb, h2.below hb, h3⟩
set_option maxHeartbeats 1000000 in
set_option maxRecDepth 100000 in
theorem owns_any (l m : List OpC) (amt : Int) (AL A' : Option Addr) (cL n' c' D : Nat) (w : World) (hL : LocksR w D AL l) (h' : Ops w D A' n' m) (hD : D ≤ w.heap.size) :
    Calls Tryd.prog 12 #[.slice AL 1 cL, .agg (outL amt A' n' c').toArray] w fun e w' => e = .returned (.int .i64 (ownI l m)) ∧ Below w.heap.size w w' := by
  obtain ⟨A, n, c, r1, r2, r3⟩ := hL
  have R1 := hid r1; have R2 := hid r2; have H' := hid h'
  clear r1 r2 h'
  go_enter Tryd.func12, Tryd.ntmps12
  go_wp2_with (with_reducible refine halt_op (some 3) (.box _ _) (fun K hK => ?_))
  refine go_on hK ?_; clear hK
  refine box_row (cs := (outL amt A' n' c').toArray) rfl (.tmp 1) rfl rfl ?_
  rintro g3 w1 hg3 s1 b1 e1
  have E1 := hid (e1.mono (show w.heap.size ≤ g3 by omega))
  have c1 : w1.cell? ⟨g3, 1, none⟩ = some (.slice A' n' c') := by rw [b1.cell]; rfl
  have C := hid (indexOps_any l m AL A A' cL n c n' c' D g3 w1 ((unhid R1).below ((unhid E1).mono hD)) ((unhid R2).below ((unhid E1).mono hD)) ((unhid H').below ((unhid E1).mono hD)) (by omega) r3 c1)
  unfold ownF at C
  clear b1 e1 hg3 s1 c1
  go_wp2_with fail
  refine (unhid C).mono ?_
  rintro e w2 ⟨rfl, hb2⟩
  have E2 := hid ((unhid E1).trans (hb2.mono (unhid E1).size))
  clear hb2 C
  go_wp2_with fail
  go_ret
  exact ⟨rfl, unhid E2⟩
def LocksP (seed : List Nat) (w : World) (e : Ending) (w' : World) : Prop := ∃ AL cL g, e = .returned (.slice AL 1 cL) ∧ LocksR w' w'.heap.size AL (lockOps g seed) ∧ Below w.heap.size w w'
theorem locksE : Elt Tryd.prog 49 28 1 24 := Elt.of Tryd.underlying49 (.slice none 0 0) (by kernel_rfl) rfl (by decide)
set_option maxHeartbeats 4000000 in
set_option maxRecDepth 100000 in
theorem locks_any (seed : List Nat) (w : World) (hs : seed.length = 32) (s8 : B8 seed) (hL : Laid w) (h0 : 1 < w.heap.size) :
    Calls Tryd.prog 13 #[.agg (cellsOf .u8 (up seed)), .int .i64 1] w (LocksP seed w) := by
  have HL := hid hL; have HS := hid hs; have S8 := hid s8
  have SL := hid (show (up seed).length = 32 by rw [up_len]; exact hs)
  clear hL hs s8
  go_enter Tryd.func13, Tryd.ntmps13
  go_wp2_with (with_reducible refine halt_op (some 2) (.box _ _) (fun K hK => ?_))
  refine go_on hK ?_; clear hK
  refine box_arr (k := .u8) (l := up seed) rfl (.tmp 0) rfl rfl ?_
  rintro g2 w1 hg2 s1 b1 e1
  have B1 := hid b1; have E1 := hid (e1.mono (show w.heap.size ≤ g2 by omega))
  clear b1 e1 hg2 s1
  go_wp2_with fail
  refine wp_loop_rounds 2 ?_
  rw [rounds_succ]
  go_wp2_with (with_reducible refine halt_op (some 13) (.load _ _) (fun K hK => ?_))
  refine go_on hK ?_; clear hK
  refine load_arr digT rfl (.tmp 2) rfl rfl (unhid B1) SL.out ?_
  go_wp2_with fail
  refine (wlock_any seed _ HS.out S8.out ((unhid HL).below (unhid E1) h0) (by have := (unhid E1).size; omega)).mono ?_
  rintro e w2 ⟨gl, g, rfl, ho, hb2⟩
  have OP := hid ho
  have E2 := hid ((unhid E1).trans (hb2.mono (unhid E1).size))
  have hs2 := (unhid E2).size
  clear ho hb2 B1
  go_wp2_with (at_builtin; refine halt_at (fun K hK => ?_))
  refine go_on hK ?_; clear hK
  refine app_step locksE rfl (.tmp 12) (.tmp 16) rfl (B := w2.heap.size) rfl (Own.none _ _ _ _) rfl (Row.lit_at w2 _ #[.slice (some ⟨gl, 0, none⟩) 2 2] 1 w2.heap.size [.slice (some ⟨gl, 0, none⟩) 2 2] rfl rfl rfl) (by intro u hu; rw [List.mem_singleton.1 hu]; rfl) (by decide) (by decide) (by simp) ?_
  intro A3 c3 w3 o3 g3 l3
  have h3 : Below w2.heap.size w2 w3 := Below.grown ((Below.refl _ _).alloc (Nat.le_refl _) _) g3 (by simp) (fun q hq => by cases hq)
  have R3 : Hid (LocksR w3 w3.heap.size A3 (lockOps g seed)) := ⟨_, 2, 2, Row.of_own o3, (unhid OP).below h3 |> fun (h : Ops w3 w2.heap.size _ 2 _) => ⟨h.row.more h3.size, h.len, fun o ho => let q := h.each o ho; ⟨q.op, q.n, q.le, q.max, q.row.more h3.size, q.b8⟩⟩, by decide⟩
  have E3 := hid ((unhid E2).trans (h3.mono hs2))
  clear o3 g3 l3 h3 OP
  go_wp2_with fail
  rw [rounds_succ]
  go_wp2_with fail
  go_ret
  exact ⟨A3, c3, g, rfl, unhid R3, unhid E3⟩
set_option maxHeartbeats 4000000 in
set_option maxRecDepth 100000 in
theorem wOwns_any (seed : List Nat) (m : List OpC) (amt : Int) (A' : Option Addr) (n' c' D : Nat) (w : World) (hs : seed.length = 32) (s8 : B8 seed) (h' : Ops w D A' n' m) (hD : D ≤ w.heap.size) (hL : Laid w) (h0 : 1 < w.heap.size) :
    Calls Tryd.prog 4 #[.agg (cellsOf .u8 (up seed)), .int .i64 1, .agg (outL amt A' n' c').toArray] w fun e w' => e = .returned (.int .i64 (ownI (lockOps 0 seed) m)) ∧ Below w.heap.size w w' := by
  have HL := hid hL; have HS := hid hs; have S8 := hid s8; have H' := hid h'
  have SL := hid (show (up seed).length = 32 by rw [up_len]; exact hs)
  clear hL hs s8 h'
  go_enter Tryd.func4, Tryd.ntmps4
  go_wp2_with (with_reducible refine halt_op (some 3) (.box _ _) (fun K hK => ?_))
  refine go_on hK ?_; clear hK
  refine box_arr (k := .u8) (l := up seed) rfl (.tmp 0) rfl rfl ?_
  rintro g3 w1 hg3 s1 b1 e1
  go_wp2_with (with_reducible refine halt_op (some 5) (.box _ _) (fun K hK => ?_))
  refine go_on hK ?_; clear hK
  refine box_row (cs := (outL amt A' n' c').toArray) rfl (.tmp 2) rfl rfl ?_
  rintro g5 w2 hg5 s2 b2 e2
  have h35 : g3 < g5 := by omega
  have h32 : g3 < w2.heap.size := by omega
  have h52 : g5 < w2.heap.size := by omega
  have B1 := b1.below e2 h35
  have E2 := hid ((e1.trans (e2.mono (by omega))).mono (show w.heap.size ≤ g3 by omega))
  have RS : Hid (∀ W, Below w2.heap.size w2 W → W.rangeAt g3 0 ((up seed).map (Value.int .u8))) := fun W h => (B1.below h h32).range
  have RO : Hid (∀ W, Below w2.heap.size w2 W → W.rangeAt g5 0 (outL amt A' n' c')) := fun W h => (b2.below h h52).rangeL
  clear b1 b2 e1 e2 hg3 hg5 s1 s2 B1
  go_wp2_with fail
  refine wp_region_held_drew (S := fun w' => Below w2.heap.size w2 w') (by kernel_rfl) ((Below.refl _ _).drew) (fun hS => ?_)
  refine wpAnyH_take (i := 0) (oi := { dst := some 7, op := Op.load 23 (Operand.tmp 3), type := 23, pos := "wallet.go:52", after := #[], guard := none }) (v := .agg (cellsOf .u8 (up seed))) rfl (by kernel_rfl) (by kernel_rfl) (by kernel_rfl) (fun _ _ _ h => h) (yields_load digT rfl (.tmp 3) rfl rfl SL.out (fun w h => RS.out w h)) hS ?_
  try simp only [Act.put, List.setIfInBounds_toArray, List.set_cons_zero, List.set_cons_succ]
  refine wpAnyH_take (i := 1) (oi := { dst := some 8, op := Op.move (Operand.tmp 1), type := 3, pos := "wallet.go:52", after := #[], guard := none }) (v := .int .i64 1) rfl (by kernel_rfl) (by kernel_rfl) (by kernel_rfl) (fun _ _ _ h => h) (yields_of rfl (fun w => by go_simp)) hS ?_
  try simp only [Act.put, List.setIfInBounds_toArray, List.set_cons_zero, List.set_cons_succ]
  refine wpAnyH_take (i := 3) (oi := { dst := some 10, op := Op.load 31 (Operand.tmp 5), type := 31, pos := "wallet.go:52", after := #[], guard := none }) (v := .agg (outL amt A' n' c').toArray) rfl (by kernel_rfl) (by kernel_rfl) (by kernel_rfl) (fun _ _ _ h => h) (yields_row outRT rfl (.tmp 5) rfl rfl rfl (fun w h => RO.out w h)) hS ?_
  try simp only [Act.put, List.setIfInBounds_toArray, List.set_cons_zero, List.set_cons_succ]
  have hbd : Below w2.heap.size w2 w2.drew := (Below.refl _ _).drew
  obtain ⟨w2d, hw2d⟩ : ∃ W, W = w2.drew := ⟨_, rfl⟩
  rw [← hw2d] at hbd
  rw [← hw2d]
  clear hw2d hS
  refine wpAnyH_ready (rs := [2]) (by kernel_rfl) (by simp) ?_
  refine AllReadyH.cons (o := _) rfl (fun K hK => ?_) AllReadyH.nil
  go_simp
  refine (locks_any seed _ HS.out S8.out ((unhid HL).below ((unhid E2).trans (hbd.mono (unhid E2).size)) h0) (by have := (unhid E2).size; have := hbd.size; omega)).mono ?_
  rintro e w3 ⟨AL, cL, g, rfl, hlr, hq3⟩
  have hb3 := hbd.trans (hq3.mono hbd.size)
  have LR := hid hlr
  clear hq3 hlr hbd
  go_wp2_with fail
  refine hK.out _ _ hb3 (fun _ => ?_)
  refine wpAnyH_ready (rs := [4]) (by kernel_rfl) (by simp) ?_
  refine AllReadyH.cons (o := _) rfl (fun K hK => ?_) AllReadyH.nil
  go_simp
  have hwd : D ≤ w3.heap.size := by have := (unhid E2).size; have := hb3.size; omega
  have O3 := (unhid H').below (((unhid E2).trans (hb3.mono (unhid E2).size)).mono hD)
  refine (owns_any (lockOps g seed) m amt AL A' cL n' c' w3.heap.size w3 (unhid LR) ⟨O3.row.more hwd, O3.len, fun o ho => let q := O3.each o ho; ⟨q.op, q.n, q.le, q.max, q.row.more hwd, q.b8⟩⟩ (Nat.le_refl _)).mono ?_
  rintro e w4 ⟨rfl, hq4⟩
  have hb4 := hb3.trans (hq4.mono hb3.size)
  rw [ownI_lock g 0]
  clear hq4 LR O3 hwd hb3
  go_wp2_with fail
  refine hK.out _ _ hb4 (fun _ => ?_)
  refine wpAnyH_ready (rs := [5]) (by kernel_rfl) (by simp) ?_
  refine AllReadyH.cons (o := _) rfl (fun K hK => ?_) AllReadyH.nil
  go_simp
  refine hK.out _ _ hb4 (fun _ => ?_)
  refine wpAnyH_done (by kernel_rfl) ?_ _
  go_wp2_with fail
  go_ret
  exact ⟨rfl, (unhid E2).trans (hb4.mono (unhid E2).size)⟩
end Go.Proofs.YtibhhbjbfdbmdaaDoor

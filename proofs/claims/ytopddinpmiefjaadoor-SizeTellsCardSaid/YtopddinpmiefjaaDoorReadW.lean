/- Walks of slices.Clone at bytes, size.Read, Unpack. -/
import Derived.Test.YtopddinpmiefjaaDoorSizeW
import Derived.Test.YtopddinpmiefjaaDoorBytesW
namespace Go.Proofs.YtopddinpmiefjaaDoor
set_option linter.unusedVariables false
open Go.RowKit Go.Mny
/-- What Read tells: number, place behind, what is wrong. -/
def readAt (l : List Int) (at_ : Int) : Int × Int × Int :=
  if at_ < 0 then (0, 0, 2) else if (l.length : Int) ≤ at_ then (0, 0, 3)
  else let r := Siz.read (l.drop at_.toNat); (r.1, if r.2.2 = 0 then at_ + r.2.1 else 0, r.2.2)
def errV' (e : Int) : Value := if e = 0 then .nilIface else .iface 23 (.int .i64 e)
def ReadPost (w : World) (l : List Int) (at_ : Int) (e : Ending) (w' : World) : Prop :=
  e = .returned (.tuple #[.int .i64 (readAt l at_).1, .int .i64 (readAt l at_).2.1, errV' (readAt l at_).2.2]) ∧ w = w'
theorem u64_join (n x : Int) (h0 : 0 ≤ n) (h1 : n < 72057594037927936) (x0 : 0 ≤ x) (x1 : x < 256) : bits .or .u64 (n * 256) x = n * 256 + x := by
  obtain ⟨a, rfl⟩ := Int.eq_ofNat_of_zero_le h0
  obtain ⟨b, rfl⟩ := Int.eq_ofNat_of_zero_le x0
  have h := u64_or_nat (a * 256) b (by omega) (by omega)
  rw [nat_join 8 (a * 256) b (by omega) (by omega)] at h
  rw [show ((a : Int) * 256) = ((a * 256 : Nat) : Int) by omega, h]; omega
theorem val_snoc (l : List Int) (x : Int) : Siz.val (l ++ [x]) = Siz.val l * 256 + x := by simp [Siz.val, List.foldl_append]
theorem val_bd (l : List Int) (hl : Siz.Bytes l) : 0 ≤ Siz.val l ∧ Siz.val l < 256 ^ l.length := by
  suffices ∀ (l : List Int) , Siz.Bytes l → ∀ r : List Int, l = r.reverse → 0 ≤ Siz.val l ∧ Siz.val l < 256 ^ l.length from this l hl l.reverse (by simp)
  intro l hl r
  induction r generalizing l with
  | nil => rintro rfl; simp [Siz.val]
  | cons x r ih =>
    rintro rfl
    rw [List.reverse_cons] at hl ⊢
    have := ih r.reverse (fun y hy => hl y (by simp at hy ⊢; exact .inl hy)) rfl
    have hx := hl x (by simp)
    rw [val_snoc, List.length_append]
    simp only [List.length_cons, List.length_nil]
    rw [Int.pow_succ]
    generalize (256 : Int) ^ r.reverse.length = p at *
    omega
def wOf (x : Int) : Nat := if x < 254 then 2 else if x < 255 then 4 else 8
theorem read_small (x : Int) (r : List Int) (h : x < 253) : Siz.read (x :: r) = (x, 1, 0) := by simp [Siz.read, h]
theorem read_big (x : Int) (r : List Int) (h : ¬ x < 253) : Siz.read (x :: r) = if r.length < wOf x then (0, 0, 3) else if Siz.val (r.take (wOf x)) / 9223372036854775808 > 0 ∨ Siz.wide (Siz.val (r.take (wOf x))) ≠ wOf x then (0, 0, 1) else (Siz.val (r.take (wOf x)), 1 + wOf x, 0) := by
  simp only [Siz.read, if_neg h]; rfl
theorem drop_cons_at {l : List Int} {p : Nat} {x : Int} (h : l[p]? = some x) : l.drop p = x :: l.drop (p + 1) := by
  obtain ⟨hp, e⟩ := List.getElem?_eq_some_iff.1 h
  rw [List.drop_eq_getElem_cons hp, e]
theorem readAt_of {l : List Int} {p : Nat} {x : Int} (h : l[p]? = some x) : readAt l p = ((Siz.read (x :: l.drop (p + 1))).1, (if (Siz.read (x :: l.drop (p + 1))).2.2 = 0 then (p : Int) + (Siz.read (x :: l.drop (p + 1))).2.1 else 0), (Siz.read (x :: l.drop (p + 1))).2.2) := by
  have hp := (List.getElem?_eq_some_iff.1 h).1
  unfold readAt
  rw [if_neg (by omega), if_neg (by omega), Int.toNat_natCast, drop_cons_at h]
/-- the loop: the first j bytes of a row as a number -/
theorem pow256_le (k : Nat) (h : k ≤ 7) : (256 : Int) ^ k ≤ 72057594037927936 := by
  match k, h with
  | 0, _ => decide
  | 1, _ => decide
  | 2, _ => decide
  | 3, _ => decide
  | 4, _ => decide
  | 5, _ => decide
  | 6, _ => decide
  | 7, _ => decide
set_option maxHeartbeats 2000000 in
set_option maxRecDepth 100000 in
theorem read_in (A : Option Addr) (n c D p : Nat) (l : List Int) (w : World) (h : Row w D 1 A n (l.map (Value.int .u8))) (hb : Siz.Bytes l) (hn : n ≤ 4611686018427387904) (hc : n ≤ c) (hp : p < n) :
    Calls Tryd.prog 19 #[.slice A n c, .int .i64 p] w (ReadPost w l p) := by
  have hl := h.length
  obtain ⟨x, hx⟩ : ∃ x, l[p]? = some x := ⟨l[p]'(by omega), List.getElem?_eq_getElem _⟩
  have hx2 := hb x (List.mem_of_getElem? hx)
  have H := hid h
  have RA := hid (readAt_of hx)
  obtain ⟨g, o, x', rfl, hg, hx', hcx⟩ := h.int hp
  have exx : x' = x := by have := hx'.out; rw [hx] at this; exact (Option.some.inj this).symm
  subst exx
  have HB := hid hb; have HL := hid hl
  clear h hx hb hl hx'
  by_cases h253 : x' < 253
  · have e := read_small x' (l.drop (p + 1)) h253
    have RA2 : Hid (readAt l p = (x', (p : Int) + 1, 0)) := by show readAt l p = _; rw [RA.out, e]; rfl
    clear RA e
    go_enter Tryd.func19, Tryd.ntmps19
    go_wp2
    go_ret3
    exact ⟨by rw [RA2.out]; rfl, rfl⟩
  · have e := read_big x' (l.drop (p + 1)) h253
    have hlr : (l.drop (p + 1)).length = n - (p + 1) := by rw [List.length_drop, HL.out]
    rw [hlr] at e
    have RA2 := hid e
    obtain ⟨W, hWx, hWc⟩ : ∃ W, wOf x' = W ∧ ((W = 2 ∧ x' = 253) ∨ (W = 4 ∧ x' = 254) ∨ (W = 8 ∧ x' = 255)) := by
      refine ⟨wOf x', rfl, ?_⟩
      unfold wOf
      rcases (show x' = 253 ∨ x' = 254 ∨ x' = 255 by omega) with rfl | rfl | rfl
      · exact .inl ⟨rfl, rfl⟩
      · exact .inr (.inl ⟨rfl, rfl⟩)
      · exact .inr (.inr ⟨rfl, rfl⟩)
    have HWX := hid hWx
    clear e hlr h253 hx2 hWx
    rcases hWc with ⟨rfl, rfl⟩ | ⟨rfl, rfl⟩ | ⟨rfl, rfl⟩
    · go_enter Tryd.func19, Tryd.ntmps19
      go_wp2_with (with_reducible refine halt_op (some 37) (.slice _ _ _ _ _) (fun K hK => ?_))
      refine go_on hK ?_; clear hK
      refine slice_step bytesE rfl (.tmp 34) (some (.tmp 36)) none rfl rfl (i := p + 1) (j := n) (.at_ (k := .i64) rfl) (.out _) (unhid H) (by omega) (Nat.le_refl _) hc ?_
      intro A2 r2
      obtain ⟨m, hm⟩ : ∃ m, m = n - (p + 1) := ⟨_, rfl⟩
      obtain ⟨c2, hc2⟩ : ∃ c2, c2 = c - (p + 1) := ⟨_, rfl⟩
      rw [← hm] at r2 RA2
      rw [← hm, ← hc2]
      obtain ⟨rest, hrest⟩ : ∃ rest, rest = l.drop (p + 1) := ⟨_, rfl⟩
      have e1 : ((l.map (Value.int .u8)).take (n * 1)).drop ((p + 1) * 1) = rest.map (Value.int .u8) := by
        rw [Nat.mul_one, Nat.mul_one, List.take_of_length_le (by rw [List.length_map, HL.out]; exact Nat.le_refl _), ← List.map_drop, hrest]
      rw [e1] at r2
      rw [← hrest] at RA RA2
      have hbr : Siz.Bytes rest := fun z hz => HB.out z (by rw [hrest] at hz; exact List.mem_of_mem_drop hz)
      have hm2 : m ≤ c2 := by omega
      have R2 := hid r2; have HBR := hid hbr; have HLR := hid r2.length
      rw [HWX.out] at RA2
      clear r2 e1 hbr hrest hm hc2 HB HL H HWX
      by_cases hmW : m < 2
      · rw [if_pos hmW] at RA2
        have RA3 : Hid (readAt l p = (0, 0, 3)) := by show readAt l p = _; rw [RA.out, RA2.out]; rfl
        clear RA RA2
        go_wp2
        go_ret3
        exact ⟨by rw [RA3.out]; rfl, rfl⟩
      · rw [if_neg hmW] at RA2
        go_wp2_with (with_reducible refine halt_op (some 45) (.slice _ _ _ _ _) (fun K hK => ?_))
        refine go_on hK ?_; clear hK
        refine slice_step bytesE rfl (.tmp 43) none (some (.tmp 44)) rfl rfl (i := 0) (j := 2) (.out _) (.at_ (k := .i64) rfl) (unhid R2) (by omega) (by omega) hm2 ?_
        intro A3 r3
        have e3 : ((rest.map (Value.int .u8)).take (2 * 1)).drop (0 * 1) = (rest.take 2).map (Value.int .u8) := by
          rw [Nat.mul_one, Nat.mul_one, List.drop_zero, List.map_take]
        rw [e3, Nat.sub_zero] at r3
        rw [Nat.sub_zero, Nat.sub_zero]
        have R3 := hid r3
        have hbt : Siz.Bytes (rest.take 2) := fun z hz => HBR.out z (List.mem_of_mem_take hz)
        have hlt' : (rest.take 2).length = 2 := r3.length
        obtain ⟨q, hq⟩ : ∃ q, q = rest.take 2 := ⟨_, rfl⟩
        rw [← hq] at hbt hlt' RA2 R3
        have HBT := hid hbt; have HLT := hid hlt'
        clear r3 e3 hbt hlt' hq R2 HBR HLR
        go_wp2_with (at_builtin; refine halt_at (fun K hK => ?_))
        go_loop [10, 47] (fun v10 v47 => ∃ (k : Nat) (v : Int), k ≤ 2 ∧ v47 = .int .i64 k ∧ v10 = .int .u64 v ∧ 0 ≤ v ∧ Hid (v = Siz.val (q.take k))) (fun _ v47 => 2 - (intOf v47).toNat)
        case atStart => exact ⟨0, 0, Nat.zero_le _, rfl, rfl, Int.le_refl _, rfl⟩
        case round =>
          obtain ⟨k, v, hk, rfl, rfl, hv0, HV⟩ := hrel
          by_cases hkW : k < 2
          · obtain ⟨g3, o3, y, rfl, hg3, hy, hcy⟩ := (unhid R3).int hkW
            have hy2 := HBT.out y (List.mem_of_getElem? hy.out)
            have hvb : v < 72057594037927936 := by
              have b := val_bd (q.take k) (fun z hz => HBT.out z (List.mem_of_mem_take hz))
              rw [← HV.out, List.length_take, Nat.min_eq_left (by rw [HLT.out]; omega)] at b
              exact Int.lt_of_lt_of_le b.2 (pow256_le k (by omega))
            have hj := hid (u64_join v y hv0 hvb hy2.1 hy2.2)
            have hw1 : IntKind.u64.wrap (v * 256) = v * 256 := IntWalk.u64_in _ (by omega)
            have HT : Hid (v * 256 + y = Siz.val (q.take (k + 1))) := by
              show _ = _
              rw [List.take_add_one, hy.out, Option.toList_some, val_snoc, ← HV.out]
            go_wp2
            go_round
            case rel => exact ⟨k + 1, v * 256 + y, by omega, by go_num, by rw [← hj.out], by omega, HT⟩
            case measure => simp [intOf]; omega
          · have hkk : k = 2 := by omega
            subst hkk
            have hvq : Hid (v = Siz.val q) := by
              show v = _
              rw [HV.out, List.take_of_length_le (by rw [HLT.out]; exact Nat.le_refl _)]
            rw [← hvq.out] at RA2
            clear HV hkW
            by_cases hbig : 9223372036854775808 ≤ v
            · have hd : (0 : Int) < v / 9223372036854775808 := by omega
              rw [if_pos (Or.inl hd)] at RA2
              have RA3 : Hid (readAt l p = (0, 0, 1)) := by show readAt l p = _; rw [RA.out, RA2.out]; rfl
              clear RA RA2
              go_wp2
              go_ret3
              exact ⟨by rw [RA3.out]; rfl, rfl⟩
            · have hd : v / 9223372036854775808 = 0 := by omega
              by_cases hwd : Siz.wide v = 2
              · rw [if_neg (by rw [hd, hwd]; simp)] at RA2
                have RA3 : Hid (readAt l p = (v, (p : Int) + 1 + 2, 0)) := by show readAt l p = _; rw [RA.out, RA2.out]; simp; omega
                have c0 : ∀ w, Calls Tryd.prog 28 #[.int .i64 v] w fun e w' => e = .returned (.int .i64 2) ∧ w = w' := fun w => by have := wide_any v w; rw [hwd] at this; exact this
                have C0 := hid c0
                have hlt63 : v < 9223372036854775808 := by omega
                have hle0 : v / 9223372036854775808 ≤ 0 := by omega
                clear RA RA2 hd hwd c0 hbig
                go_wp2_with fail
                refine (unhid C0 _).mono ?_
                rintro e w' ⟨rfl, rfl⟩
                go_wp2_with fail
                go_ret3
                exact ⟨by rw [RA3.out]; rfl, rfl⟩
              · rw [if_pos (Or.inr hwd)] at RA2
                have RA3 : Hid (readAt l p = (0, 0, 1)) := by show readAt l p = _; rw [RA.out, RA2.out]; rfl
                have hne : (((Siz.wide v : Nat) : Int) != 2) = true := by simp; omega
                have hlt63 : v < 9223372036854775808 := by omega
                have hle0 : v / 9223372036854775808 ≤ 0 := by omega
                clear RA RA2 hd hwd hbig
                go_wp2_with fail
                refine (wide_any _ _).mono ?_
                rintro e w' ⟨rfl, rfl⟩
                go_wp2_with fail
                go_ret3
                exact ⟨by rw [RA3.out]; rfl, rfl⟩
    · go_enter Tryd.func19, Tryd.ntmps19
      go_wp2_with (with_reducible refine halt_op (some 37) (.slice _ _ _ _ _) (fun K hK => ?_))
      refine go_on hK ?_; clear hK
      refine slice_step bytesE rfl (.tmp 34) (some (.tmp 36)) none rfl rfl (i := p + 1) (j := n) (.at_ (k := .i64) rfl) (.out _) (unhid H) (by omega) (Nat.le_refl _) hc ?_
      intro A2 r2
      obtain ⟨m, hm⟩ : ∃ m, m = n - (p + 1) := ⟨_, rfl⟩
      obtain ⟨c2, hc2⟩ : ∃ c2, c2 = c - (p + 1) := ⟨_, rfl⟩
      rw [← hm] at r2 RA2
      rw [← hm, ← hc2]
      obtain ⟨rest, hrest⟩ : ∃ rest, rest = l.drop (p + 1) := ⟨_, rfl⟩
      have e1 : ((l.map (Value.int .u8)).take (n * 1)).drop ((p + 1) * 1) = rest.map (Value.int .u8) := by
        rw [Nat.mul_one, Nat.mul_one, List.take_of_length_le (by rw [List.length_map, HL.out]; exact Nat.le_refl _), ← List.map_drop, hrest]
      rw [e1] at r2
      rw [← hrest] at RA RA2
      have hbr : Siz.Bytes rest := fun z hz => HB.out z (by rw [hrest] at hz; exact List.mem_of_mem_drop hz)
      have hm2 : m ≤ c2 := by omega
      have R2 := hid r2; have HBR := hid hbr; have HLR := hid r2.length
      rw [HWX.out] at RA2
      clear r2 e1 hbr hrest hm hc2 HB HL H HWX
      by_cases hmW : m < 4
      · rw [if_pos hmW] at RA2
        have RA3 : Hid (readAt l p = (0, 0, 3)) := by show readAt l p = _; rw [RA.out, RA2.out]; rfl
        clear RA RA2
        go_wp2
        go_ret3
        exact ⟨by rw [RA3.out]; rfl, rfl⟩
      · rw [if_neg hmW] at RA2
        go_wp2_with (with_reducible refine halt_op (some 45) (.slice _ _ _ _ _) (fun K hK => ?_))
        refine go_on hK ?_; clear hK
        refine slice_step bytesE rfl (.tmp 43) none (some (.tmp 44)) rfl rfl (i := 0) (j := 4) (.out _) (.at_ (k := .i64) rfl) (unhid R2) (by omega) (by omega) hm2 ?_
        intro A3 r3
        have e3 : ((rest.map (Value.int .u8)).take (4 * 1)).drop (0 * 1) = (rest.take 4).map (Value.int .u8) := by
          rw [Nat.mul_one, Nat.mul_one, List.drop_zero, List.map_take]
        rw [e3, Nat.sub_zero] at r3
        rw [Nat.sub_zero, Nat.sub_zero]
        have R3 := hid r3
        have hbt : Siz.Bytes (rest.take 4) := fun z hz => HBR.out z (List.mem_of_mem_take hz)
        have hlt' : (rest.take 4).length = 4 := r3.length
        obtain ⟨q, hq⟩ : ∃ q, q = rest.take 4 := ⟨_, rfl⟩
        rw [← hq] at hbt hlt' RA2 R3
        have HBT := hid hbt; have HLT := hid hlt'
        clear r3 e3 hbt hlt' hq R2 HBR HLR
        go_wp2_with (at_builtin; refine halt_at (fun K hK => ?_))
        go_loop [10, 47] (fun v10 v47 => ∃ (k : Nat) (v : Int), k ≤ 4 ∧ v47 = .int .i64 k ∧ v10 = .int .u64 v ∧ 0 ≤ v ∧ Hid (v = Siz.val (q.take k))) (fun _ v47 => 4 - (intOf v47).toNat)
        case atStart => exact ⟨0, 0, Nat.zero_le _, rfl, rfl, Int.le_refl _, rfl⟩
        case round =>
          obtain ⟨k, v, hk, rfl, rfl, hv0, HV⟩ := hrel
          by_cases hkW : k < 4
          · obtain ⟨g3, o3, y, rfl, hg3, hy, hcy⟩ := (unhid R3).int hkW
            have hy2 := HBT.out y (List.mem_of_getElem? hy.out)
            have hvb : v < 72057594037927936 := by
              have b := val_bd (q.take k) (fun z hz => HBT.out z (List.mem_of_mem_take hz))
              rw [← HV.out, List.length_take, Nat.min_eq_left (by rw [HLT.out]; omega)] at b
              exact Int.lt_of_lt_of_le b.2 (pow256_le k (by omega))
            have hj := hid (u64_join v y hv0 hvb hy2.1 hy2.2)
            have hw1 : IntKind.u64.wrap (v * 256) = v * 256 := IntWalk.u64_in _ (by omega)
            have HT : Hid (v * 256 + y = Siz.val (q.take (k + 1))) := by
              show _ = _
              rw [List.take_add_one, hy.out, Option.toList_some, val_snoc, ← HV.out]
            go_wp2
            go_round
            case rel => exact ⟨k + 1, v * 256 + y, by omega, by go_num, by rw [← hj.out], by omega, HT⟩
            case measure => simp [intOf]; omega
          · have hkk : k = 4 := by omega
            subst hkk
            have hvq : Hid (v = Siz.val q) := by
              show v = _
              rw [HV.out, List.take_of_length_le (by rw [HLT.out]; exact Nat.le_refl _)]
            rw [← hvq.out] at RA2
            clear HV hkW
            by_cases hbig : 9223372036854775808 ≤ v
            · have hd : (0 : Int) < v / 9223372036854775808 := by omega
              rw [if_pos (Or.inl hd)] at RA2
              have RA3 : Hid (readAt l p = (0, 0, 1)) := by show readAt l p = _; rw [RA.out, RA2.out]; rfl
              clear RA RA2
              go_wp2
              go_ret3
              exact ⟨by rw [RA3.out]; rfl, rfl⟩
            · have hd : v / 9223372036854775808 = 0 := by omega
              by_cases hwd : Siz.wide v = 4
              · rw [if_neg (by rw [hd, hwd]; simp)] at RA2
                have RA3 : Hid (readAt l p = (v, (p : Int) + 1 + 4, 0)) := by show readAt l p = _; rw [RA.out, RA2.out]; simp; omega
                have c0 : ∀ w, Calls Tryd.prog 28 #[.int .i64 v] w fun e w' => e = .returned (.int .i64 4) ∧ w = w' := fun w => by have := wide_any v w; rw [hwd] at this; exact this
                have C0 := hid c0
                have hlt63 : v < 9223372036854775808 := by omega
                have hle0 : v / 9223372036854775808 ≤ 0 := by omega
                clear RA RA2 hd hwd c0 hbig
                go_wp2_with fail
                refine (unhid C0 _).mono ?_
                rintro e w' ⟨rfl, rfl⟩
                go_wp2_with fail
                go_ret3
                exact ⟨by rw [RA3.out]; rfl, rfl⟩
              · rw [if_pos (Or.inr hwd)] at RA2
                have RA3 : Hid (readAt l p = (0, 0, 1)) := by show readAt l p = _; rw [RA.out, RA2.out]; rfl
                have hne : (((Siz.wide v : Nat) : Int) != 4) = true := by simp; omega
                have hlt63 : v < 9223372036854775808 := by omega
                have hle0 : v / 9223372036854775808 ≤ 0 := by omega
                clear RA RA2 hd hwd hbig
                go_wp2_with fail
                refine (wide_any _ _).mono ?_
                rintro e w' ⟨rfl, rfl⟩
                go_wp2_with fail
                go_ret3
                exact ⟨by rw [RA3.out]; rfl, rfl⟩
    · go_enter Tryd.func19, Tryd.ntmps19
      go_wp2_with (with_reducible refine halt_op (some 37) (.slice _ _ _ _ _) (fun K hK => ?_))
      refine go_on hK ?_; clear hK
      refine slice_step bytesE rfl (.tmp 34) (some (.tmp 36)) none rfl rfl (i := p + 1) (j := n) (.at_ (k := .i64) rfl) (.out _) (unhid H) (by omega) (Nat.le_refl _) hc ?_
      intro A2 r2
      obtain ⟨m, hm⟩ : ∃ m, m = n - (p + 1) := ⟨_, rfl⟩
      obtain ⟨c2, hc2⟩ : ∃ c2, c2 = c - (p + 1) := ⟨_, rfl⟩
      rw [← hm] at r2 RA2
      rw [← hm, ← hc2]
      obtain ⟨rest, hrest⟩ : ∃ rest, rest = l.drop (p + 1) := ⟨_, rfl⟩
      have e1 : ((l.map (Value.int .u8)).take (n * 1)).drop ((p + 1) * 1) = rest.map (Value.int .u8) := by
        rw [Nat.mul_one, Nat.mul_one, List.take_of_length_le (by rw [List.length_map, HL.out]; exact Nat.le_refl _), ← List.map_drop, hrest]
      rw [e1] at r2
      rw [← hrest] at RA RA2
      have hbr : Siz.Bytes rest := fun z hz => HB.out z (by rw [hrest] at hz; exact List.mem_of_mem_drop hz)
      have hm2 : m ≤ c2 := by omega
      have R2 := hid r2; have HBR := hid hbr; have HLR := hid r2.length
      rw [HWX.out] at RA2
      clear r2 e1 hbr hrest hm hc2 HB HL H HWX
      by_cases hmW : m < 8
      · rw [if_pos hmW] at RA2
        have RA3 : Hid (readAt l p = (0, 0, 3)) := by show readAt l p = _; rw [RA.out, RA2.out]; rfl
        clear RA RA2
        go_wp2
        go_ret3
        exact ⟨by rw [RA3.out]; rfl, rfl⟩
      · rw [if_neg hmW] at RA2
        go_wp2_with (with_reducible refine halt_op (some 45) (.slice _ _ _ _ _) (fun K hK => ?_))
        refine go_on hK ?_; clear hK
        refine slice_step bytesE rfl (.tmp 43) none (some (.tmp 44)) rfl rfl (i := 0) (j := 8) (.out _) (.at_ (k := .i64) rfl) (unhid R2) (by omega) (by omega) hm2 ?_
        intro A3 r3
        have e3 : ((rest.map (Value.int .u8)).take (8 * 1)).drop (0 * 1) = (rest.take 8).map (Value.int .u8) := by
          rw [Nat.mul_one, Nat.mul_one, List.drop_zero, List.map_take]
        rw [e3, Nat.sub_zero] at r3
        rw [Nat.sub_zero, Nat.sub_zero]
        have R3 := hid r3
        have hbt : Siz.Bytes (rest.take 8) := fun z hz => HBR.out z (List.mem_of_mem_take hz)
        have hlt' : (rest.take 8).length = 8 := r3.length
        obtain ⟨q, hq⟩ : ∃ q, q = rest.take 8 := ⟨_, rfl⟩
        rw [← hq] at hbt hlt' RA2 R3
        have HBT := hid hbt; have HLT := hid hlt'
        clear r3 e3 hbt hlt' hq R2 HBR HLR
        go_wp2_with (at_builtin; refine halt_at (fun K hK => ?_))
        go_loop [10, 47] (fun v10 v47 => ∃ (k : Nat) (v : Int), k ≤ 8 ∧ v47 = .int .i64 k ∧ v10 = .int .u64 v ∧ 0 ≤ v ∧ Hid (v = Siz.val (q.take k))) (fun _ v47 => 8 - (intOf v47).toNat)
        case atStart => exact ⟨0, 0, Nat.zero_le _, rfl, rfl, Int.le_refl _, rfl⟩
        case round =>
          obtain ⟨k, v, hk, rfl, rfl, hv0, HV⟩ := hrel
          by_cases hkW : k < 8
          · obtain ⟨g3, o3, y, rfl, hg3, hy, hcy⟩ := (unhid R3).int hkW
            have hy2 := HBT.out y (List.mem_of_getElem? hy.out)
            have hvb : v < 72057594037927936 := by
              have b := val_bd (q.take k) (fun z hz => HBT.out z (List.mem_of_mem_take hz))
              rw [← HV.out, List.length_take, Nat.min_eq_left (by rw [HLT.out]; omega)] at b
              exact Int.lt_of_lt_of_le b.2 (pow256_le k (by omega))
            have hj := hid (u64_join v y hv0 hvb hy2.1 hy2.2)
            have hw1 : IntKind.u64.wrap (v * 256) = v * 256 := IntWalk.u64_in _ (by omega)
            have HT : Hid (v * 256 + y = Siz.val (q.take (k + 1))) := by
              show _ = _
              rw [List.take_add_one, hy.out, Option.toList_some, val_snoc, ← HV.out]
            go_wp2
            go_round
            case rel => exact ⟨k + 1, v * 256 + y, by omega, by go_num, by rw [← hj.out], by omega, HT⟩
            case measure => simp [intOf]; omega
          · have hkk : k = 8 := by omega
            subst hkk
            have hvq : Hid (v = Siz.val q) := by
              show v = _
              rw [HV.out, List.take_of_length_le (by rw [HLT.out]; exact Nat.le_refl _)]
            rw [← hvq.out] at RA2
            clear HV hkW
            by_cases hbig : 9223372036854775808 ≤ v
            · have hd : (0 : Int) < v / 9223372036854775808 := by omega
              rw [if_pos (Or.inl hd)] at RA2
              have RA3 : Hid (readAt l p = (0, 0, 1)) := by show readAt l p = _; rw [RA.out, RA2.out]; rfl
              clear RA RA2
              go_wp2
              go_ret3
              exact ⟨by rw [RA3.out]; rfl, rfl⟩
            · have hd : v / 9223372036854775808 = 0 := by omega
              by_cases hwd : Siz.wide v = 8
              · rw [if_neg (by rw [hd, hwd]; simp)] at RA2
                have RA3 : Hid (readAt l p = (v, (p : Int) + 1 + 8, 0)) := by show readAt l p = _; rw [RA.out, RA2.out]; simp; omega
                have c0 : ∀ w, Calls Tryd.prog 28 #[.int .i64 v] w fun e w' => e = .returned (.int .i64 8) ∧ w = w' := fun w => by have := wide_any v w; rw [hwd] at this; exact this
                have C0 := hid c0
                have hlt63 : v < 9223372036854775808 := by omega
                have hle0 : v / 9223372036854775808 ≤ 0 := by omega
                clear RA RA2 hd hwd c0 hbig
                go_wp2_with fail
                refine (unhid C0 _).mono ?_
                rintro e w' ⟨rfl, rfl⟩
                go_wp2_with fail
                go_ret3
                exact ⟨by rw [RA3.out]; rfl, rfl⟩
              · rw [if_pos (Or.inr hwd)] at RA2
                have RA3 : Hid (readAt l p = (0, 0, 1)) := by show readAt l p = _; rw [RA.out, RA2.out]; rfl
                have hne : (((Siz.wide v : Nat) : Int) != 8) = true := by simp; omega
                have hlt63 : v < 9223372036854775808 := by omega
                have hle0 : v / 9223372036854775808 ≤ 0 := by omega
                clear RA RA2 hd hwd hbig
                go_wp2_with fail
                refine (wide_any _ _).mono ?_
                rintro e w' ⟨rfl, rfl⟩
                go_wp2_with fail
                go_ret3
                exact ⟨by rw [RA3.out]; rfl, rfl⟩
end Go.Proofs.YtopddinpmiefjaaDoor

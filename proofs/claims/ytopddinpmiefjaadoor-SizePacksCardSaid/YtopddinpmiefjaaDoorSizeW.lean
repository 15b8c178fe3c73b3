/- Walks of size.wide, Of, Write, Pack. -/
import Derived.Test.YtopddinpmiefjaaDoorProg
import Derived.Test.YtopddinpmiefjaaDoorArr
import Derived.Test.YtopddinpmiefjaaDoorSizeMath
namespace Go.Proofs.YtopddinpmiefjaaDoor
set_option linter.unusedVariables false
open Go.RowKit Go.Mny
theorem wide_any (n : Int) (w : World) :
    Calls Tryd.prog 28 #[.int .i64 n] w fun e w' => e = .returned (.int .i64 (Siz.wide n : Nat)) ∧ w = w' := by
  rcases Siz.wide_cases n with ⟨h, e⟩ | ⟨h, h2, e⟩ | ⟨h, h2, e⟩ | ⟨h, e⟩
  all_goals
    have E := hid e
    clear e
    go_enter Tryd.func28, Tryd.ntmps28
    go_wp2
    go_ret
    exact ⟨by rw [E.out]; rfl, rfl⟩
theorem bytesE : Elt Tryd.prog 37 5 1 1 := Elt.of Tryd.underlying37 (.int .u8 0) (by kernel_rfl) rfl (by decide)
/-- A slice of bytes of the call's own comes back. -/
def Fresh (w : World) (l : List Int) (e : Ending) (w' : World) : Prop :=
  ∃ A c, e = .returned (.slice A l.length c) ∧ Own w' w.heap.size 5 1 A l.length c (l.map (Value.int .u8)) ∧ Below w.heap.size w w'
theorem take_step (W : Nat) (n : Int) (k : Nat) (hk : k < W) :
    (Siz.bytesOf W n).take (W - (k + 1)) ++ [n / 2 ^ (8 * k) % 256] = (Siz.bytesOf W n).take (W - k) := by
  have e1 : W - k = W - (k + 1) + 1 := by omega
  have hl : W - (k + 1) < (Siz.bytesOf W n).length := by rw [Siz.bytesOf_length]; omega
  rw [e1, List.take_succ_eq_append_getElem hl]
  congr 2
  simp only [Siz.bytesOf, List.getElem_map, List.getElem_range]
  have e2 : W - 1 - (W - (k + 1)) = k := by omega
  rw [e2]
set_option maxHeartbeats 1000000 in
set_option maxRecDepth 100000 in
theorem of_any (n : Int) (w : World) (h0 : 0 ≤ n) (h1 : n ≤ 9223372036854775807) :
    Calls Tryd.prog 26 #[.int .i64 n] w (Fresh w (Siz.ofN n)) := by
  by_cases hs : n < 253
  · have E := hid (show Siz.ofN n = [n] by unfold Siz.ofN; rw [if_pos hs])
    have W0 : Siz.wide n = 0 := by unfold Siz.wide; rw [if_pos hs]
    have c0 : ∀ w, Calls Tryd.prog 28 #[.int .i64 n] w fun e w' => e = .returned (.int .i64 0) ∧ w = w' := fun w => by have := wide_any n w; rw [W0] at this; exact this
    have C0 := hid c0
    clear W0 c0
    go_enter Tryd.func26, Tryd.ntmps26
    go_wp2_with fail
    refine (unhid C0 _).mono ?_
    rintro e w' ⟨rfl, rfl⟩
    go_wp2_with fail
    go_ret
    refine ⟨some ⟨w.heap.size, 0, none⟩, 1, ?_, ?_, (Below.refl _ _).alloc (Nat.le_refl _) _⟩
    · rw [E.out]; rfl
    · rw [E.out]; exact Own.lit_at _ _ _ 1 1 _ _ _ rfl (Nat.le_refl _) (by decide) rfl rfl
  · obtain ⟨W, fb, hW⟩ : ∃ W fb, ((W = 2 ∧ fb = 253) ∨ (W = 4 ∧ fb = 254) ∨ (W = 8 ∧ fb = 255)) ∧ Siz.wide n = W ∧ Siz.ofN n = fb :: Siz.bytesOf W n := by
      unfold Siz.ofN
      rw [if_neg hs]
      rcases Siz.wide_cases n with ⟨h, e⟩ | ⟨h, h2, e⟩ | ⟨h, h2, e⟩ | ⟨h, e⟩
      · omega
      · exact ⟨2, 253, .inl ⟨rfl, rfl⟩, e, by rw [if_pos h2, e]⟩
      · exact ⟨4, 254, .inr (.inl ⟨rfl, rfl⟩), e, by rw [if_neg (by omega), if_pos h2, e]⟩
      · exact ⟨8, 255, .inr (.inr ⟨rfl, rfl⟩), e, by rw [if_neg (by omega), if_neg (by omega), e]⟩
    obtain ⟨hW, hw, ho⟩ := hW
    have c0 : ∀ w, Calls Tryd.prog 28 #[.int .i64 n] w fun e w' => e = .returned (.int .i64 (W : Nat)) ∧ w = w' := fun w => by have := wide_any n w; rw [hw] at this; exact this
    have C0 := hid c0
    have E := hid ho
    clear c0 ho hw hs
    rcases hW with ⟨rfl, rfl⟩ | ⟨rfl, rfl⟩ | ⟨rfl, rfl⟩
    · go_enter Tryd.func26, Tryd.ntmps26
      go_wp2_with fail
      refine (unhid C0 _).mono ?_
      rintro e w' ⟨rfl, rfl⟩
      go_wp2_with (at_builtin; refine halt_at (fun K hK => ?_))
      go_loopw [4, 5] (fun v4 v5 wr => ∃ (k : Nat) (A : Option Addr) (c : Nat), k ≤ 2 ∧ v5 = .int .i64 ((k : Int) - 1) ∧ v4 = .slice A (1 + (2 - k)) c ∧
          Hid (Own wr w.heap.size 5 1 A (1 + (2 - k)) c ((253 :: (Siz.bytesOf 2 n).take (2 - k)).map (Value.int .u8))) ∧ Hid (Below w.heap.size w wr)) (fun _ v5 _ => (intOf v5 + 1).toNat)
      case atStart => exact ⟨2, _, 1, Nat.le_refl _, rfl, rfl, Own.lit_at _ _ _ 1 1 _ _ _ rfl (Nat.le_refl _) (by decide) rfl rfl, (Below.refl _ _).alloc (Nat.le_refl _) _⟩
      case round =>
        obtain ⟨k, A, c, hk, rfl, rfl, HO, HB⟩ := hrel
        cases k with
        | succ k =>
          have e1 : (((k + 1 : Nat) : Int) - 1) = (k : Int) := by omega
          rw [e1]
          have hs0 : (0 : Int) ≤ 8 * (k : Int) := by omega
          have hs1 : 8 * (k : Int) ≤ 64 := by omega
          have bs := (unhid HB).size
          have T := hid (take_step 2 n k (by omega))
          clear e1
          go_wp2_with (at_builtin; refine halt_at (fun K hK => ?_))
          refine go_on hK ?_; clear hK
          refine app_step bytesE rfl (.tmp 35) (.tmp 41) rfl rfl ((unhid HO).alloc _) rfl (Row.lit_at _ _ _ _ _ [.int .u8 (n / 2 ^ (8 * k) % 256)] rfl rfl rfl) (ints_one .u8 [_]) (by simp [maxLen]; omega) (by omega) (by simp; omega) ?_
          intro A2 c2 w2 o2 g2 l2
          have e2 : 1 + (2 - (k + 1)) + 1 = 1 + (2 - k) := by omega
          rw [e2] at o2 ⊢
          have b2 : Below w.heap.size w w2 := Below.grown ((unhid HB).alloc bs _) g2 (by simp; omega) (fun q hq => ((unhid HO).from_ q hq).1)
          have d2 : (253 :: (Siz.bytesOf 2 n).take (2 - (k + 1))).map (Value.int .u8) ++ [.int .u8 (n / 2 ^ (8 * k) % 256)] = (253 :: (Siz.bytesOf 2 n).take (2 - k)).map (Value.int .u8) := by
            rw [← T.out, List.map_cons, List.map_cons, List.map_append]; rfl
          rw [d2] at o2
          have HO2 := hid o2; have HB2 := hid b2
          clear o2 b2 d2 g2 l2 e2 HO HB
          go_wp2_with (at_builtin; refine halt_at (fun K hK => ?_))
          go_roundw
          case rel => exact ⟨k, A2, c2, by omega, rfl, rfl, HO2, HB2⟩
          case measure => simp [intOf]
        | zero =>
          have e1 : (((0 : Nat) : Int) - 1) = -1 := by omega
          rw [e1]
          clear e1
          go_wp2
          go_ret
          have el : (253 :: (Siz.bytesOf 2 n).take 2) = Siz.ofN n := by rw [E.out, List.take_of_length_le (by rw [Siz.bytesOf_length]; exact Nat.le_refl _)]
          have ell : (Siz.ofN n).length = 1 + 2 := by rw [E.out, List.length_cons, Siz.bytesOf_length]
          have o := unhid HO
          rw [Nat.sub_zero, el] at o
          exact ⟨A, c, by rw [ell]; rfl, by rw [ell]; exact o, unhid HB⟩
    · go_enter Tryd.func26, Tryd.ntmps26
      go_wp2_with fail
      refine (unhid C0 _).mono ?_
      rintro e w' ⟨rfl, rfl⟩
      go_wp2_with (at_builtin; refine halt_at (fun K hK => ?_))
      go_loopw [4, 5] (fun v4 v5 wr => ∃ (k : Nat) (A : Option Addr) (c : Nat), k ≤ 4 ∧ v5 = .int .i64 ((k : Int) - 1) ∧ v4 = .slice A (1 + (4 - k)) c ∧
          Hid (Own wr w.heap.size 5 1 A (1 + (4 - k)) c ((254 :: (Siz.bytesOf 4 n).take (4 - k)).map (Value.int .u8))) ∧ Hid (Below w.heap.size w wr)) (fun _ v5 _ => (intOf v5 + 1).toNat)
      case atStart => exact ⟨4, _, 1, Nat.le_refl _, rfl, rfl, Own.lit_at _ _ _ 1 1 _ _ _ rfl (Nat.le_refl _) (by decide) rfl rfl, (Below.refl _ _).alloc (Nat.le_refl _) _⟩
      case round =>
        obtain ⟨k, A, c, hk, rfl, rfl, HO, HB⟩ := hrel
        cases k with
        | succ k =>
          have e1 : (((k + 1 : Nat) : Int) - 1) = (k : Int) := by omega
          rw [e1]
          have hs0 : (0 : Int) ≤ 8 * (k : Int) := by omega
          have hs1 : 8 * (k : Int) ≤ 64 := by omega
          have bs := (unhid HB).size
          have T := hid (take_step 4 n k (by omega))
          clear e1
          go_wp2_with (at_builtin; refine halt_at (fun K hK => ?_))
          refine go_on hK ?_; clear hK
          refine app_step bytesE rfl (.tmp 35) (.tmp 41) rfl rfl ((unhid HO).alloc _) rfl (Row.lit_at _ _ _ _ _ [.int .u8 (n / 2 ^ (8 * k) % 256)] rfl rfl rfl) (ints_one .u8 [_]) (by simp [maxLen]; omega) (by omega) (by simp; omega) ?_
          intro A2 c2 w2 o2 g2 l2
          have e2 : 1 + (4 - (k + 1)) + 1 = 1 + (4 - k) := by omega
          rw [e2] at o2 ⊢
          have b2 : Below w.heap.size w w2 := Below.grown ((unhid HB).alloc bs _) g2 (by simp; omega) (fun q hq => ((unhid HO).from_ q hq).1)
          have d2 : (254 :: (Siz.bytesOf 4 n).take (4 - (k + 1))).map (Value.int .u8) ++ [.int .u8 (n / 2 ^ (8 * k) % 256)] = (254 :: (Siz.bytesOf 4 n).take (4 - k)).map (Value.int .u8) := by
            rw [← T.out, List.map_cons, List.map_cons, List.map_append]; rfl
          rw [d2] at o2
          have HO2 := hid o2; have HB2 := hid b2
          clear o2 b2 d2 g2 l2 e2 HO HB
          go_wp2_with (at_builtin; refine halt_at (fun K hK => ?_))
          go_roundw
          case rel => exact ⟨k, A2, c2, by omega, rfl, rfl, HO2, HB2⟩
          case measure => simp [intOf]
        | zero =>
          have e1 : (((0 : Nat) : Int) - 1) = -1 := by omega
          rw [e1]
          clear e1
          go_wp2
          go_ret
          have el : (254 :: (Siz.bytesOf 4 n).take 4) = Siz.ofN n := by rw [E.out, List.take_of_length_le (by rw [Siz.bytesOf_length]; exact Nat.le_refl _)]
          have ell : (Siz.ofN n).length = 1 + 4 := by rw [E.out, List.length_cons, Siz.bytesOf_length]
          have o := unhid HO
          rw [Nat.sub_zero, el] at o
          exact ⟨A, c, by rw [ell]; rfl, by rw [ell]; exact o, unhid HB⟩
    · go_enter Tryd.func26, Tryd.ntmps26
      go_wp2_with fail
      refine (unhid C0 _).mono ?_
      rintro e w' ⟨rfl, rfl⟩
      go_wp2_with (at_builtin; refine halt_at (fun K hK => ?_))
      go_loopw [4, 5] (fun v4 v5 wr => ∃ (k : Nat) (A : Option Addr) (c : Nat), k ≤ 8 ∧ v5 = .int .i64 ((k : Int) - 1) ∧ v4 = .slice A (1 + (8 - k)) c ∧
          Hid (Own wr w.heap.size 5 1 A (1 + (8 - k)) c ((255 :: (Siz.bytesOf 8 n).take (8 - k)).map (Value.int .u8))) ∧ Hid (Below w.heap.size w wr)) (fun _ v5 _ => (intOf v5 + 1).toNat)
      case atStart => exact ⟨8, _, 1, Nat.le_refl _, rfl, rfl, Own.lit_at _ _ _ 1 1 _ _ _ rfl (Nat.le_refl _) (by decide) rfl rfl, (Below.refl _ _).alloc (Nat.le_refl _) _⟩
      case round =>
        obtain ⟨k, A, c, hk, rfl, rfl, HO, HB⟩ := hrel
        cases k with
        | succ k =>
          have e1 : (((k + 1 : Nat) : Int) - 1) = (k : Int) := by omega
          rw [e1]
          have hs0 : (0 : Int) ≤ 8 * (k : Int) := by omega
          have hs1 : 8 * (k : Int) ≤ 64 := by omega
          have bs := (unhid HB).size
          have T := hid (take_step 8 n k (by omega))
          clear e1
          go_wp2_with (at_builtin; refine halt_at (fun K hK => ?_))
          refine go_on hK ?_; clear hK
          refine app_step bytesE rfl (.tmp 35) (.tmp 41) rfl rfl ((unhid HO).alloc _) rfl (Row.lit_at _ _ _ _ _ [.int .u8 (n / 2 ^ (8 * k) % 256)] rfl rfl rfl) (ints_one .u8 [_]) (by simp [maxLen]; omega) (by omega) (by simp; omega) ?_
          intro A2 c2 w2 o2 g2 l2
          have e2 : 1 + (8 - (k + 1)) + 1 = 1 + (8 - k) := by omega
          rw [e2] at o2 ⊢
          have b2 : Below w.heap.size w w2 := Below.grown ((unhid HB).alloc bs _) g2 (by simp; omega) (fun q hq => ((unhid HO).from_ q hq).1)
          have d2 : (255 :: (Siz.bytesOf 8 n).take (8 - (k + 1))).map (Value.int .u8) ++ [.int .u8 (n / 2 ^ (8 * k) % 256)] = (255 :: (Siz.bytesOf 8 n).take (8 - k)).map (Value.int .u8) := by
            rw [← T.out, List.map_cons, List.map_cons, List.map_append]; rfl
          rw [d2] at o2
          have HO2 := hid o2; have HB2 := hid b2
          clear o2 b2 d2 g2 l2 e2 HO HB
          go_wp2_with (at_builtin; refine halt_at (fun K hK => ?_))
          go_roundw
          case rel => exact ⟨k, A2, c2, by omega, rfl, rfl, HO2, HB2⟩
          case measure => simp [intOf]
        | zero =>
          have e1 : (((0 : Nat) : Int) - 1) = -1 := by omega
          rw [e1]
          clear e1
          go_wp2
          go_ret
          have el : (255 :: (Siz.bytesOf 8 n).take 8) = Siz.ofN n := by rw [E.out, List.take_of_length_le (by rw [Siz.bytesOf_length]; exact Nat.le_refl _)]
          have ell : (Siz.ofN n).length = 1 + 8 := by rw [E.out, List.length_cons, Siz.bytesOf_length]
          have o := unhid HO
          rw [Nat.sub_zero, el] at o
          exact ⟨A, c, by rw [ell]; rfl, by rw [ell]; exact o, unhid HB⟩
theorem write_ok (n : Int) (w : World) (h0 : 0 ≤ n) (h1 : n ≤ 9223372036854775807) :
    Calls Tryd.prog 16 #[.int .i64 n] w fun e w' => ∃ A c, e = .returned (.tuple #[.slice A (Siz.ofN n).length c, .nilIface]) ∧ Own w' w.heap.size 5 1 A (Siz.ofN n).length c ((Siz.ofN n).map (Value.int .u8)) ∧ Below w.heap.size w w' := by
  go_enter Tryd.func16, Tryd.ntmps16
  go_wp2_with fail
  refine (of_any n _ h0 h1).mono ?_
  rintro e w' ⟨A, c, rfl, ho, hb⟩
  have HO := hid ho; have HB := hid hb; clear ho hb
  go_wp2
  go_ret2
  exact ⟨A, c, rfl, unhid HO, unhid HB⟩
theorem write_err (n : Int) (w : World) (h0 : n < 0) :
    Calls Tryd.prog 16 #[.int .i64 n] w fun e w' => e = .returned (.tuple #[.slice none 0 0, .iface 23 (.int .i64 2)]) ∧ w = w' := by
  go_enter Tryd.func16, Tryd.ntmps16
  go_wp2
  go_ret2
  exact ⟨rfl, rfl⟩
theorem pack_any (A : Option Addr) (n c : Nat) (l : List Int) (w : World) (h : Row w w.heap.size 1 A n (l.map (Value.int .u8))) (hn : n ≤ 140737488355000) :
    Calls Tryd.prog 20 #[.slice A n c] w (Fresh w (Siz.ofN n ++ l)) := by
  have hl := hid h.length
  have H := hid h; clear h
  have wl : (Siz.ofN n).length ≤ 9 := by
    rw [Siz.ofN_length]
    rcases Siz.wide_cases n with ⟨_, e⟩ | ⟨_, _, e⟩ | ⟨_, _, e⟩ | ⟨_, e⟩ <;> rw [e] <;> omega
  go_enter Tryd.func20, Tryd.ntmps20
  go_wp2_with fail
  refine (of_any n _ (by omega) (by omega)).mono ?_
  rintro e w1 ⟨A1, c1, rfl, ho, hb⟩
  have HO := hid ho; have HB := hid hb; clear ho hb
  go_wp2_with (at_builtin; refine halt_at (fun K hK => ?_))
  refine go_on hK ?_; clear hK
  refine app_step bytesE rfl (.tmp 5) (.tmp 6) rfl rfl (unhid HO) rfl ((unhid H).below (unhid HB)) (ints_one _ _) (by simp [maxLen]; omega) (by omega) (unhid HB).size ?_
  intro A2 c2 w2 o2 g2 l2
  have b2 := Below.grown (unhid HB) g2 (unhid HB).size (fun q hq => ((unhid HO).from_ q hq).1)
  have O2 := hid o2; have B2 := hid b2; clear o2 b2 g2 l2
  go_wp2
  go_ret
  have el : (Siz.ofN n ++ l).length = (Siz.ofN n).length + n := by rw [List.length_append, hl.out]
  exact ⟨A2, c2, by rw [el]; rfl, by rw [el, List.map_append]; exact unhid O2, unhid B2⟩
end Go.Proofs.YtopddinpmiefjaaDoor

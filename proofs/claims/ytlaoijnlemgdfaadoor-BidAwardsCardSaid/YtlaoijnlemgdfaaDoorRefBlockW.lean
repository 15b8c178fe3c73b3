/- The walk of the reference's block. -/
import Derived.Test.YtlaoijnlemgdfaaDoorRefLowW
import Derived.Test.YtlaoijnlemgdfaaDoorRefNumW
namespace Go.Proofs.YtlaoijnlemgdfaaDoor
set_option linter.unusedVariables false
open Go.RowKit Go.Mny
theorem intsE : Elt Tryd.prog 32 3 1 8 := Elt.of Tryd.underlying32 (.int .i64 0) (by kernel_rfl) rfl (by decide)
abbrev ints (l : List Nat) : List Value := (up l).map (Value.int .i64)
/-- a block that begins with these integers -/
def vcells (v : List Nat) (X : List Value) : Array Value := (ints v ++ X).toArray
theorem vcells_get {v : List Nat} {X : List Value} {i x : Nat} (h : v[i]? = some x) : (vcells v X)[i]? = some (.int .i64 (x : Nat)) := by
  have hi := (List.getElem?_eq_some_iff.1 h).1
  rw [vcells, List.getElem?_toArray, List.getElem?_append_left (by simp [up]; exact hi), List.getElem?_map, up_get, h]; rfl
theorem vcells_set {v : List Nat} {X : List Value} {i : Nat} (hi : i < v.length) (y : Nat) : (vcells v X).setIfInBounds i (.int .i64 (y : Nat)) = vcells (v.set i y) X := by
  unfold vcells
  rw [List.setIfInBounds_toArray, List.set_append_left _ _ (by simp [up]; exact hi)]
  congr 2
  rw [← List.map_set, up_set]
theorem add4_bits (s a t b : Nat) (hs : s < 4294967296) (ha : a < 4294967296) (ht : t < 4294967296) (hb : b < 4294967296) : bits .and .i64 ((s : Int) + (a : Int) + (t : Int) + (b : Int)) 4294967295 = (Sh2.add (Sh2.add (Sh2.add s a) t) b : Nat) := by
  have e : ((s + a + t + b : Nat) : Int) = (s : Int) + (a : Int) + (t : Int) + (b : Int) := by omega
  have h1 := mask32 (s + a + t + b) (by omega)
  rw [e] at h1
  rw [h1]; unfold Sh2.add; omega
theorem add2_bits (s a : Nat) (hs : s < 9223372036854775808) (ha : s + a < 9223372036854775808) : bits .and .i64 ((s : Int) + (a : Int)) 4294967295 = (((s + a) % 4294967296 : Nat) : Int) := by
  have e : ((s + a : Nat) : Int) = (s : Int) + (a : Int) := by omega
  have h1 := mask32 (s + a) (by omega)
  rw [e] at h1
  rw [h1]; omega
theorem quiet_after {P : Program} {f : FuncId} {args : Array Value} {w : World} {a n : Nat} {v : Value} (c : ∀ W : World, Calls P f args W fun e w' => e = .returned v ∧ ∃ m, w' = W.drewN m) :
    Calls P f args (w.drewN (a + n)) fun e w'' => e = .returned v ∧ ∃ m, w'' = w.drewN (a + m) :=
  (c _).mono fun _ _ ⟨he, m, hm⟩ => ⟨he, n + m, by rw [hm, World.drewN_drewN, Nat.add_assoc]⟩
def shf (a b c d e f g h : Nat) : Nat → List Nat
  | 0 => [a, a, b, c, d, e, f, g]
  | 1 => [a, b, b, c, d, e, f, g]
  | 2 => [a, b, c, c, d, e, f, g]
  | 3 => [a, b, c, d, d, e, f, g]
  | 4 => [a, b, c, d, e, e, f, g]
  | 5 => [a, b, c, d, e, f, f, g]
  | 6 => [a, b, c, d, e, f, g, g]
  | _ => [a, b, c, d, e, f, g, h]
def RBPost (s m : List Nat) (w : World) (e : Ending) (w' : World) : Prop :=
  ∃ g c, e = .returned (.slice (some ⟨g, 0, none⟩) 8 c) ∧ Row w' w'.heap.size 1 (some ⟨g, 0, none⟩) 8 (ints (Sh2.block s m)) ∧ 8 ≤ c ∧ Below w.heap.size w w'
def Wst (m : List Nat) (t : Nat) (L : List Nat) : Prop := (t ≤ 16 ∧ L = firstsTo m t) ∨ ∃ j, t = 16 + j ∧ L = Sh2.more (Sh2.firsts m) j
theorem i64_sig0 (x : Nat) (hx : x < 4294967296) : bits .xor .i64 ((Sh2.rot x 7 : Nat) : Int) ((Sh2.rot x 18 : Nat) : Int) = ((Sh2.rot x 7 ^^^ Sh2.rot x 18 : Nat) : Int) ∧ bits .xor .i64 ((Sh2.rot x 7 ^^^ Sh2.rot x 18 : Nat) : Int) ((x : Int) / 8) = (Sh2.sig0 x : Nat) := by
  have l1 := rot_lt x 7 hx; have l2 := rot_lt x 18 hx
  have l3 := xor_lt32 _ _ l1 l2
  exact ⟨i64_xor _ _ (by omega) (by omega), i64_xor _ (x / 8) (by omega) (by omega)⟩
theorem i64_sig1 (x : Nat) (hx : x < 4294967296) : bits .xor .i64 ((Sh2.rot x 17 : Nat) : Int) ((Sh2.rot x 19 : Nat) : Int) = ((Sh2.rot x 17 ^^^ Sh2.rot x 19 : Nat) : Int) ∧ bits .xor .i64 ((Sh2.rot x 17 ^^^ Sh2.rot x 19 : Nat) : Int) ((x : Int) / 1024) = (Sh2.sig1 x : Nat) := by
  have l1 := rot_lt x 17 hx; have l2 := rot_lt x 19 hx
  have l3 := xor_lt32 _ _ l1 l2
  exact ⟨i64_xor _ _ (by omega) (by omega), i64_xor _ (x / 1024) (by omega) (by omega)⟩
theorem sig_lt (x a b d : Nat) (hx : x < 4294967296) : Sh2.rot x a ^^^ Sh2.rot x b ^^^ (x / d) < 4294967296 :=
  xor_lt32 _ _ (xor_lt32 _ _ (rot_lt x a hx) (rot_lt x b hx)) (Nat.lt_of_le_of_lt (Nat.div_le_self _ _) hx)
set_option maxHeartbeats 20000000 in
set_option maxRecDepth 100000 in
theorem rblock_any (s m : List Nat) (Ah Ak Am : Option Addr) (ch ck cm D : Nat) (w : World) (hs : s.length = 8) (s32 : B32 s) (hr : Row w D 1 Ah 8 (ints s)) (hrk : Row w D 1 Ak 64 (ints Sh2.K)) (hrm : Row w D 1 Am 64 (bytes (m.take 64))) (hmc : 64 ≤ cm) (hml : 64 ≤ m.length) (hD : D ≤ w.heap.size) (m8 : B8 m) :
    Calls Tryd.prog 32 #[.slice Ah 8 ch, .slice Ak 64 ck, .slice Am 64 cm] w (RBPost s m w) := by
  have hmk : ∀ w, (Instr.makeSlice 32 (.int .i64 64) (.int .i64 64)).run Tryd.prog w = .ok (.slice (some ⟨w.heap.size, 0, none⟩) 64 64) (w.alloc (.cells (cellsOf .i64 (up (pad64 []))) 3)) := fun _ => by kernel_rfl
  have HS := hid hr; have HK := hid hrk; have HM := hid hrm; have M8 := hid m8; have SL := hid hs; have S32 := hid s32; have ML := hid hml
  clear hr hrk hrm m8 hs s32 hml
  go_enter Tryd.func32, Tryd.ntmps32
  go_wp2_with fail
  clear hmk
  have BW0 := hid (Blk.new w 3 (cellsOf .i64 (up (pad64 []))))
  obtain ⟨gw, hgw⟩ : ∃ gw, w.heap.size = gw := ⟨_, rfl⟩
  have E0 := hid ((Below.refl w.heap.size w).alloc (Nat.le_refl _) (.cells (cellsOf .i64 (up (pad64 []))) 3))
  go_loopw [8] (fun v8 wr => ∃ (t : Nat) (L : List Nat), t ≤ 64 ∧ L.length = t ∧ Hid (B32 L) ∧ v8 = .int .i64 t ∧ Hid (Wst m t L) ∧ Hid (Blk wr w.heap.size 3 (cellsOf .i64 (up (pad64 L)))) ∧ Hid (Below w.heap.size w wr)) (fun v8 _ => 64 - (intOf v8).toNat)
  case atStart => exact ⟨0, [], Nat.zero_le _, rfl, hid (fun x hx => by cases hx), rfl, hid (.inl ⟨Nat.zero_le _, rfl⟩), BW0, E0⟩
  case round =>
    obtain ⟨t, L, ht, hLt, HL32, rfl, HW, HB, HE⟩ := hrel
    have hsw := (unhid HB).lt'
    by_cases hlt : t < 64
    · have c4 : wr.cell? ⟨w.heap.size, t, none⟩ = some (.int .i64 0) := by
        rw [(unhid HB).cell, cellsOf_get, up_get, pad64, List.getElem?_append_right (by omega), hLt, Nat.sub_self, List.getElem?_replicate, if_pos (by omega)]; rfl
      have c5 : wr.frozen? ⟨w.heap.size, t, none⟩ = false := (unhid HB).free t
      have j0 : (0 : Int) ≤ (t : Int) := by omega
      have j1 : (t : Int) < 64 := by omega
      have HLT := hid hLt
      clear hLt hgw
      by_cases ht16 : t < 16
      · obtain ⟨a, ha⟩ : ∃ a, m[4 * t]? = some a := ⟨_, List.getElem?_eq_getElem (by have := ML.out; omega)⟩
        obtain ⟨b, hb⟩ : ∃ a, m[4 * t + 1]? = some a := ⟨_, List.getElem?_eq_getElem (by have := ML.out; omega)⟩
        obtain ⟨d, hd⟩ : ∃ a, m[4 * t + 2]? = some a := ⟨_, List.getElem?_eq_getElem (by have := ML.out; omega)⟩
        obtain ⟨f, hf⟩ : ∃ a, m[4 * t + 3]? = some a := ⟨_, List.getElem?_eq_getElem (by have := ML.out; omega)⟩
        have ma := M8.out _ (List.mem_of_getElem? ha); have mb := M8.out _ (List.mem_of_getElem? hb); have md := M8.out _ (List.mem_of_getElem? hd); have mf := M8.out _ (List.mem_of_getElem? hf)
        have hL : L = firstsTo m t := by
          rcases HW.out with ⟨_, h⟩ | ⟨j, h, _⟩
          · exact h
          · omega
        have st := hid (firstsTo_step m ht16 ha hb hd hf)
        have hcut : ((bytes (m.take 64)).take ((4 * t + 4) * 1)).drop (4 * t * 1) = bytes [a, b, d, f] := by
          rw [Nat.mul_one, Nat.mul_one, ← bytes_take, ← bytes_drop, List.take_take, Nat.min_eq_left (by omega)]
          congr 1
          refine List.ext_getElem? fun i => ?_
          rw [List.getElem?_drop, List.getElem?_take]
          match i with
          | 0 => rw [if_pos (by omega)]; simpa using ha
          | 1 => rw [if_pos (by omega)]; simpa using hb
          | 2 => rw [if_pos (by omega)]; simpa using hd
          | 3 => rw [if_pos (by omega)]; simpa using hf
          | i + 4 => rw [if_neg (by omega)]; simp
        have HCUT := hid hcut
        have HLL := hid hL
        clear ha hb hd hf hcut hL
        go_wp2_with (with_reducible refine halt_op (some 37) (.slice _ _ _ _ _) (fun K hK => ?_))
        refine go_on hK ?_; clear hK
        refine slice_step bytesE rfl (.tmp 31) (some (.tmp 33)) (some (.tmp 36)) rfl rfl (i := 4 * t) (j := 4 * t + 4) (Bnd.at_ rfl) (Bnd.at_ rfl) ((unhid HM).below ((unhid HE).mono hD)) (by omega) (by omega) hmc ?_
        intro A2 r2
        rw [HCUT.out, show 4 * t + 4 - 4 * t = 4 by omega] at r2
        rw [show 4 * t + 4 - 4 * t = 4 by omega]
        have R2 := hid r2
        clear r2
        go_wp2_with fail
        refine (num_any a b d f A2 _ _ _ (unhid R2) ma mb md mf).mono ?_
        rintro e w' ⟨rfl, rfl⟩
        go_wp2_with fail
        go_roundw
        case rel =>
          refine ⟨t + 1, L ++ [Sh2.word a b d f], by omega, by rw [List.length_append, HLT.out]; rfl, ?_, by go_num, hid (.inl ⟨by omega, by rw [HLL.out, st.out]⟩), ?_, (unhid HE).setCell (Nat.le_refl _) _⟩
          · refine hid fun x hx => ?_
            rcases List.mem_append.1 hx with hx | hx
            · exact HL32.out x hx
            · rw [List.mem_singleton.1 hx]; exact word_lt _ _ _ _ mf
          · have := (unhid HB).put t (.int .i64 (Sh2.word a b d f : Nat))
            rw [cellsOf_set, up_set, pad64_set HLT.out hlt] at this
            exact hid this
        case measure => simp [intOf]; omega
      · obtain ⟨j, rfl, hLj⟩ : ∃ j, t = 16 + j ∧ L = Sh2.more (Sh2.firsts m) j := by
          rcases HW.out with ⟨h1, h2⟩ | h
          · refine ⟨0, by omega, ?_⟩
            rw [h2, show t = 16 by omega, firstsTo, List.take_of_length_le (by rw [firsts_len]; exact Nat.le_refl _)]; rfl
          · exact h
        have ml := HLT.out
        rw [hLj] at ml HL32 HB
        obtain ⟨x, hx⟩ : ∃ x, (Sh2.more (Sh2.firsts m) j)[1 + j]? = some x := ⟨_, List.getElem?_eq_getElem (by rw [ml]; omega)⟩
        obtain ⟨y, hy⟩ : ∃ x, (Sh2.more (Sh2.firsts m) j)[14 + j]? = some x := ⟨_, List.getElem?_eq_getElem (by rw [ml]; omega)⟩
        obtain ⟨a, ha⟩ : ∃ x, (Sh2.more (Sh2.firsts m) j)[9 + j]? = some x := ⟨_, List.getElem?_eq_getElem (by rw [ml]; omega)⟩
        obtain ⟨b, hb⟩ : ∃ x, (Sh2.more (Sh2.firsts m) j)[j]? = some x := ⟨_, List.getElem?_eq_getElem (by rw [ml]; omega)⟩
        have bx := HL32.out x (List.mem_of_getElem? hx); have by_ := HL32.out y (List.mem_of_getElem? hy)
        have ba := HL32.out a (List.mem_of_getElem? ha); have bb := HL32.out b (List.mem_of_getElem? hb)
        have st := hid (more_step (Sh2.firsts m) j ml hx hy ha hb)
        obtain ⟨sx1, sx2⟩ := i64_sig0 x bx
        obtain ⟨sy1, sy2⟩ := i64_sig1 y by_
        have lx : Sh2.sig0 x < 4294967296 := sig_lt x 7 18 8 bx
        have ly : Sh2.sig1 y < 4294967296 := sig_lt y 17 19 1024 by_
        have cell : ∀ i v, i < 16 + j → (Sh2.more (Sh2.firsts m) j)[i]? = some v → wr.cell? ⟨w.heap.size, i, none⟩ = some (.int .i64 (v : Nat)) := fun i v hi hv => by
          rw [(unhid HB).cell, cellsOf_get, up_get, pad64_get (by rw [ml]; exact hi), hv]; rfl
        have d1 := cell _ _ (by omega) hx; have d2 := cell _ _ (by omega) hy; have d3 := cell _ _ (by omega) ha; have d4 := cell _ _ (by omega) hb
        have i0 : (((16 + j : Nat) : Int)) = 16 + (j : Int) := by omega
        rw [i0]
        rw [i0] at j0 j1
        have q1 : (16 : Int) + (j : Int) - 15 = 1 + (j : Int) := by omega
        have q2 : (16 : Int) + (j : Int) - 2 = 14 + (j : Int) := by omega
        have q3 : (16 : Int) + (j : Int) - 7 = 9 + (j : Int) := by omega
        have q4 : (16 : Int) + (j : Int) - 16 = (j : Int) := by omega
        have i3 : (0 : Int) ≤ 1 + (j : Int) := by omega
        have i4 : 1 + (j : Int) < 64 := by omega
        have i5 : (0 : Int) ≤ 14 + (j : Int) := by omega
        have i6 : 14 + (j : Int) < 64 := by omega
        have i7 : (0 : Int) ≤ 9 + (j : Int) := by omega
        have i8 : 9 + (j : Int) < 64 := by omega
        have i9 : (0 : Int) ≤ (j : Int) := by omega
        have i10 : (j : Int) < 64 := by omega
        have i11 : (16 : Int) ≤ 16 + (j : Int) := by omega
        have t1 : (1 + (j : Int)).toNat = 1 + j := by omega
        have t2 : (14 + (j : Int)).toNat = 14 + j := by omega
        have t3 : (9 + (j : Int)).toNat = 9 + j := by omega
        have t4 : (16 + (j : Int)).toNat = 16 + j := by omega
        have MLh := hid ml; have HLJ := hid hLj
        clear hx hy ha hb cell i0 ml hLj ht16
        go_wp2_with fail
        refine (turn_7 x _ bx).mono ?_
        rintro e w' ⟨k1, rfl, rfl⟩
        go_wp2_with fail
        refine (turn_18 x _ bx).mono ?_
        rintro e w' ⟨k2, rfl, rfl⟩
        go_wp2_with fail
        refine (turn_17 y _ by_).mono ?_
        rintro e w' ⟨k3, rfl, rfl⟩
        go_wp2_with fail
        refine (turn_19 y _ by_).mono ?_
        rintro e w' ⟨k4, rfl, rfl⟩
        go_wp2_with fail
        have zz : (0 : Int) ≤ (Sh2.sig1 y : Nat) := by omega
        go_region
        go_wp2_with fail
        have ev := add4_bits (Sh2.sig1 y) a (Sh2.sig0 x) b ly ba lx bb
        rw [ev]
        refine ⟨⟨16 + j + 1, Sh2.more (Sh2.firsts m) (j + 1), by omega, ?_, ?_, by go_num, hid (.inr ⟨j + 1, by omega, rfl⟩), ?_, ((unhid HE).drewN _).setCell (Nat.le_refl _) _⟩, by simp [intOf]; omega⟩
        · rw [← st.out, List.length_append, MLh.out]; rfl
        · rw [← st.out]
          refine hid fun v hv => ?_
          rcases List.mem_append.1 hv with hv | hv
          · exact HL32.out v hv
          · rw [List.mem_singleton.1 hv]; exact add_lt _ _
        · have := ((unhid HB).drewN (k1 + k2 + k3 + k4 + 1)).put (16 + j) (.int .i64 (Sh2.add (Sh2.add (Sh2.add (Sh2.sig1 y) a) (Sh2.sig0 x)) b : Nat))
          rw [cellsOf_set, up_set, pad64_set MLh.out hlt, st.out] at this
          exact hid this
    · have ht64 : t = 64 := by omega
      have hLw : L = Sh2.words m := by
        rcases HW.out with ⟨h1, _⟩ | ⟨j, h1, h2⟩
        · omega
        · rw [h2, show j = 48 by omega]; rfl
      rw [hLw] at HB HL32 hLt
      have hpad : pad64 (Sh2.words m) = Sh2.words m := by unfold pad64; rw [hLt, ht64]; simp
      rw [hpad] at HB
      have WL := hid (show (Sh2.words m).length = 64 by rw [hLt, ht64])
      have W32 := HL32
      subst ht64
      clear hLt hLw hpad HW hgw HL32 E0 BW0
      go_wp2_with (at_builtin; refine halt_at (fun K hK => ?_))
      refine go_on hK ?_; clear hK
      refine app_new intsE rfl (.tmp 87) (.tmp 88) rfl rfl (Own.lit_at wr wr.heap.size 3 1 0 _ _ [] rfl (Nat.le_refl _) (by decide) rfl rfl) rfl (((unhid HS).below ((unhid HE).mono hD)).alloc (by have := (unhid HE).size; omega) _) (ints_one .i64 _) (by decide) (by decide) (by simp) ?_
      intro A2 c2 w2 o2 g2 l2
      have e2 : Below wr.heap.size wr w2 := Below.grown ((Below.refl _ _).alloc (Nat.le_refl _) _) g2 (by simp) (fun q hq => by have h : wr.heap.size = q := Option.some.inj hq; omega)
      obtain ⟨gv, cur, rfl, hgv, hbv, hc8, _, hcs, hcur⟩ := o2.blk (by decide)
      obtain ⟨X, hX⟩ : ∃ X, cur.toList.drop 8 = X := ⟨_, rfl⟩
      have hcv : cur = vcells s X := by
        apply Array.ext'
        simp only [Nat.mul_one] at hcur
        show cur.toList = ints s ++ X
        rw [← hX, ← hcur]
        exact (List.take_append_drop 8 cur.toList).symm
      rw [hcv] at hbv
      have BV := hbv
      have hgw' : w.heap.size < gv := by omega
      have BW2 := hid ((unhid HB).below e2 (unhid HB).lt')
      have E2 := hid ((unhid HE).trans (e2.mono (unhid HE).size))
      clear o2 g2 l2 hbv hcur hcs hX hcv e2 HB HE
      go_wp2_with fail
      go_loopw [14] (fun v14 wr => ∃ t : Nat, t ≤ 64 ∧ v14 = .int .i64 t ∧ Hid (Blk wr gv 3 (vcells (Sh2.rounds Sh2.K (Sh2.words m) t s) X)) ∧ Hid (Below gv w2 wr)) (fun v14 _ => 64 - (intOf v14).toNat)
      case atStart => exact ⟨0, Nat.zero_le _, rfl, BV, hid (Below.refl _ _)⟩
      case round =>
        obtain ⟨k, hk, rfl, HB, HE⟩ := hrel
        obtain ⟨vl, v32⟩ := rounds_ok Sh2.K (Sh2.words m) s SL.out S32.out k
        by_cases hlt : k < 64
        · obtain ⟨kk, hkk⟩ : ∃ x, Sh2.K[k]? = some x := ⟨_, List.getElem?_eq_getElem (by show k < 64; exact hlt)⟩
          obtain ⟨ww, hww⟩ : ∃ x, (Sh2.words m)[k]? = some x := ⟨_, List.getElem?_eq_getElem (by rw [WL.out]; exact hlt)⟩
          have hstep := rounds_step Sh2.K (Sh2.words m) s k hkk hww
          have RK := ((unhid HK).below ((unhid E2).mono hD)).below ((unhid HE).mono (by omega))
          have BW3 := (unhid BW2).below (unhid HE) hgw'
          generalize Sh2.rounds Sh2.K (Sh2.words m) k s = v at *
          obtain ⟨a, b, c', d, e, f, g, h, rfl⟩ := eight v vl
          have HST := hid hstep
          have ba := v32 a (by simp); have bb := v32 b (by simp); have bc := v32 c' (by simp); have bd := v32 d (by simp)
          have be := v32 e (by simp); have bf := v32 f (by simp); have bg := v32 g (by simp); have bh := v32 h (by simp)
          have bk := K_lt kk (List.mem_of_getElem? hkk)
          have bw := W32.out ww (List.mem_of_getElem? hww)
          have cell : ∀ i x, [a, b, c', d, e, f, g, h][i]? = some x → wr.cell? ⟨gv, i, none⟩ = some (.int .i64 (x : Nat)) := fun i x hx => by rw [(unhid HB).cell, vcells_get hx]
          have n0 := cell 0 a rfl; have n1 := cell 1 b rfl; have n2 := cell 2 c' rfl; have n4 := cell 4 e rfl; have n5 := cell 5 f rfl; have n6 := cell 6 g rfl; have n7 := cell 7 h rfl
          have m8' : wr.cell? ⟨w.heap.size, k, none⟩ = some (.int .i64 (ww : Nat)) := by rw [BW3.cell, cellsOf_get, up_get, hww]; rfl
          obtain ⟨gk, ok, rfl, hgk, hck⟩ := RK.cells (by decide)
          have m9 : wr.cell? ⟨gk, ok + k, none⟩ = some (.int .i64 (kk : Nat)) := by rw [hck k (by simp [up]; exact hlt), List.getElem?_map, up_get, hkk]; rfl
          have j0 : (0 : Int) ≤ (k : Int) := by omega
          have j1 : (k : Int) < 64 := by omega
          have y1 := i64_xor (Sh2.rot e 6) (Sh2.rot e 11) (by have := rot_lt e 6 be; omega) (by have := rot_lt e 11 be; omega)
          have y2 : bits .xor .i64 ((Sh2.rot e 6 ^^^ Sh2.rot e 11 : Nat) : Int) ((Sh2.rot e 25 : Nat) : Int) = (Sh2.tri e 6 11 25 : Nat) := i64_xor _ _ (by have := xor_lt32 _ _ (rot_lt e 6 be) (rot_lt e 11 be); omega) (by have := rot_lt e 25 be; omega)
          have y3 := i64_and e f (by omega) (by omega)
          have hnot : (4294967295 : Int) - (e : Int) = ((Sh2.not e : Nat) : Int) := by unfold Sh2.not; omega
          have nlt : Sh2.not e < 4294967296 := by unfold Sh2.not; omega
          have y4 : bits .and .i64 ((4294967295 : Int) - (e : Int)) (g : Int) = ((Sh2.not e &&& g : Nat) : Int) := by rw [hnot]; exact i64_and _ _ (by omega) (by omega)
          have lt1 : e &&& f < 4294967296 := Nat.lt_of_le_of_lt Nat.and_le_left be
          have lt2 : Sh2.not e &&& g < 4294967296 := Nat.lt_of_le_of_lt Nat.and_le_right bg
          have y5 := i64_xor (e &&& f) (Sh2.not e &&& g) (by omega) (by omega)
          have lt3 := xor_lt32 _ _ lt1 lt2
          have lt4 := tri_lt e 6 11 25 be
          have q6 : ∀ W : World, Calls Tryd.prog 46 #[.int .i64 e, .int .i64 6] W fun e' w' => e' = .returned (.int .i64 (Sh2.rot e 6 : Nat)) ∧ ∃ n, w' = W.drewN n := fun W => (turn_6 e W be).mono fun _ _ ⟨q, h1, h2⟩ => ⟨h1, ⟨q, h2.symm⟩⟩
          have q11 : ∀ W : World, Calls Tryd.prog 46 #[.int .i64 e, .int .i64 11] W fun e' w' => e' = .returned (.int .i64 (Sh2.rot e 11 : Nat)) ∧ ∃ n, w' = W.drewN n := fun W => (turn_11 e W be).mono fun _ _ ⟨q, h1, h2⟩ => ⟨h1, ⟨q, h2.symm⟩⟩
          have q25 : ∀ W : World, Calls Tryd.prog 46 #[.int .i64 e, .int .i64 25] W fun e' w' => e' = .returned (.int .i64 (Sh2.rot e 25 : Nat)) ∧ ∃ n, w' = W.drewN n := fun W => (turn_25 e W be).mono fun _ _ ⟨q, h1, h2⟩ => ⟨h1, ⟨q, h2.symm⟩⟩
          clear hkk hww hstep v32 vl hck RK BW3 cell hnot
          go_wp2_with fail
          go_quiet ((go_at_call 46; first | (with_reducible exact Calls.quiet_of (q6 _)) | (with_reducible exact Calls.quiet_of (q11 _)) | (with_reducible exact Calls.quiet_of (q25 _))))
          obtain ⟨p, hpp⟩ : ∃ p, h + Sh2.tri e 6 11 25 + ((e &&& f) ^^^ (Sh2.not e &&& g)) + kk + ww = p := ⟨_, rfl⟩
          have hp : (h : Int) + ((Sh2.tri e 6 11 25 : Nat) : Int) + (((e &&& f) ^^^ (Sh2.not e &&& g) : Nat) : Int) + (kk : Int) + (ww : Int) = ((p : Nat) : Int) := by rw [← hpp]; simp only [Int.natCast_add]
          have hpb : p < 21474836480 := by omega
          rw [hp]
          have HPP := hid hpp
          clear hp hpp y1 y2 y3 y4 y5 lt1 lt2 lt3 lt4 nlt q6 q11 q25 m8' m9 n4 n5 n6 n7
          have z1 := i64_xor (Sh2.rot a 2) (Sh2.rot a 13) (by have := rot_lt a 2 ba; omega) (by have := rot_lt a 13 ba; omega)
          have z2 : bits .xor .i64 ((Sh2.rot a 2 ^^^ Sh2.rot a 13 : Nat) : Int) ((Sh2.rot a 22 : Nat) : Int) = (Sh2.tri a 2 13 22 : Nat) := i64_xor _ _ (by have := xor_lt32 _ _ (rot_lt a 2 ba) (rot_lt a 13 ba); omega) (by have := rot_lt a 22 ba; omega)
          have z3 := i64_and a b (by omega) (by omega)
          have z4 := i64_and a c' (by omega) (by omega)
          have z5 := i64_and b c' (by omega) (by omega)
          have la : a &&& b < 4294967296 := Nat.lt_of_le_of_lt Nat.and_le_left ba
          have lb : a &&& c' < 4294967296 := Nat.lt_of_le_of_lt Nat.and_le_left ba
          have lc : b &&& c' < 4294967296 := Nat.lt_of_le_of_lt Nat.and_le_left bb
          have z6 := i64_xor (a &&& b) (a &&& c') (by omega) (by omega)
          have ld := xor_lt32 _ _ la lb
          have z7 := i64_xor ((a &&& b) ^^^ (a &&& c')) (b &&& c') (by omega) (by omega)
          have le := xor_lt32 _ _ ld lc
          have lf := tri_lt a 2 13 22 ba
          have q2 : ∀ W : World, Calls Tryd.prog 46 #[.int .i64 a, .int .i64 2] W fun e' w' => e' = .returned (.int .i64 (Sh2.rot a 2 : Nat)) ∧ ∃ n, w' = W.drewN n := fun W => (turn_2 a W ba).mono fun _ _ ⟨q, h1, h2⟩ => ⟨h1, ⟨q, h2.symm⟩⟩
          have q13 : ∀ W : World, Calls Tryd.prog 46 #[.int .i64 a, .int .i64 13] W fun e' w' => e' = .returned (.int .i64 (Sh2.rot a 13 : Nat)) ∧ ∃ n, w' = W.drewN n := fun W => (turn_13 a W ba).mono fun _ _ ⟨q, h1, h2⟩ => ⟨h1, ⟨q, h2.symm⟩⟩
          have q22 : ∀ W : World, Calls Tryd.prog 46 #[.int .i64 a, .int .i64 22] W fun e' w' => e' = .returned (.int .i64 (Sh2.rot a 22 : Nat)) ∧ ∃ n, w' = W.drewN n := fun W => (turn_22 a W ba).mono fun _ _ ⟨q, h1, h2⟩ => ⟨h1, ⟨q, h2.symm⟩⟩
          simp only [Exit.then]
          apply_assumption
          refine wp_seq_k (fun K hK => ?_)
          go_quiet ((go_at_call 46; first | (with_reducible exact quiet_after q2) | (with_reducible exact quiet_after q13) | (with_reducible exact quiet_after q22)))
          obtain ⟨q, hqq⟩ : ∃ q, Sh2.tri a 2 13 22 + ((a &&& b) ^^^ (a &&& c') ^^^ (b &&& c')) = q := ⟨_, rfl⟩
          have hq : ((Sh2.tri a 2 13 22 : Nat) : Int) + (((a &&& b) ^^^ (a &&& c') ^^^ (b &&& c') : Nat) : Int) = ((q : Nat) : Int) := by rw [← hqq]; simp only [Int.natCast_add]
          have hqb : q < 8589934592 := by omega
          rw [hq]
          have HQQ := hid hqq
          clear hq hqq z1 z2 z3 z4 z5 z6 z7 la lb lc ld le lf q2 q13 q22 n0 n1 n2
          simp only [Exit.then]
          apply_assumption
          go_wp2_with fail
          go_loopw [19] (fun v19 wr => ∃ i : Nat, i ≤ 7 ∧ v19 = .int .i64 i ∧ Hid (Blk wr gv 3 (vcells (shf a b c' d e f g h i) X)) ∧ Hid (Below gv w2 wr)) (fun v19 _ => (intOf v19).toNat)
          case atStart => exact ⟨7, Nat.le_refl _, rfl, hid (unhid HB), hid ⟨(unhid HE).os, (unhid HE).tape, (unhid HE).output, (unhid HE).size, (unhid HE).block⟩⟩
          case round =>
            obtain ⟨i, hi, rfl, HV, HF⟩ := hrel
            have hi8 : i = 7 ∨ i = 6 ∨ i = 5 ∨ i = 4 ∨ i = 3 ∨ i = 2 ∨ i = 1 ∨ i = 0 := by omega
            rcases hi8 with rfl | rfl | rfl | rfl | rfl | rfl | rfl | rfl
            · have p1 : wr.cell? ⟨gv, 6, none⟩ = some (.int .i64 (g : Nat)) := by rw [(unhid HV).cell]; exact vcells_get rfl
              have p2 : wr.cell? ⟨gv, 7, none⟩ = some (.int .i64 (h : Nat)) := by rw [(unhid HV).cell]; exact vcells_get rfl
              have p3 : wr.frozen? ⟨gv, 7, none⟩ = false := (unhid HV).free 7
              go_wp2_with fail
              go_roundw
              case rel =>
                refine ⟨6, by omega, rfl, ?_, (unhid HF).setCell (Nat.le_refl gv) _⟩
                have := (unhid HV).put 7 (.int .i64 (g : Nat))
                rw [vcells_set (by simp [shf])] at this
                exact hid this
              case measure => simp [intOf]
            · have p1 : wr.cell? ⟨gv, 5, none⟩ = some (.int .i64 (f : Nat)) := by rw [(unhid HV).cell]; exact vcells_get rfl
              have p2 : wr.cell? ⟨gv, 6, none⟩ = some (.int .i64 (g : Nat)) := by rw [(unhid HV).cell]; exact vcells_get rfl
              have p3 : wr.frozen? ⟨gv, 6, none⟩ = false := (unhid HV).free 6
              go_wp2_with fail
              go_roundw
              case rel =>
                refine ⟨5, by omega, rfl, ?_, (unhid HF).setCell (Nat.le_refl gv) _⟩
                have := (unhid HV).put 6 (.int .i64 (f : Nat))
                rw [vcells_set (by simp [shf])] at this
                exact hid this
              case measure => simp [intOf]
            · have p1 : wr.cell? ⟨gv, 4, none⟩ = some (.int .i64 (e : Nat)) := by rw [(unhid HV).cell]; exact vcells_get rfl
              have p2 : wr.cell? ⟨gv, 5, none⟩ = some (.int .i64 (f : Nat)) := by rw [(unhid HV).cell]; exact vcells_get rfl
              have p3 : wr.frozen? ⟨gv, 5, none⟩ = false := (unhid HV).free 5
              go_wp2_with fail
              go_roundw
              case rel =>
                refine ⟨4, by omega, rfl, ?_, (unhid HF).setCell (Nat.le_refl gv) _⟩
                have := (unhid HV).put 5 (.int .i64 (e : Nat))
                rw [vcells_set (by simp [shf])] at this
                exact hid this
              case measure => simp [intOf]
            · have p1 : wr.cell? ⟨gv, 3, none⟩ = some (.int .i64 (d : Nat)) := by rw [(unhid HV).cell]; exact vcells_get rfl
              have p2 : wr.cell? ⟨gv, 4, none⟩ = some (.int .i64 (e : Nat)) := by rw [(unhid HV).cell]; exact vcells_get rfl
              have p3 : wr.frozen? ⟨gv, 4, none⟩ = false := (unhid HV).free 4
              go_wp2_with fail
              go_roundw
              case rel =>
                refine ⟨3, by omega, rfl, ?_, (unhid HF).setCell (Nat.le_refl gv) _⟩
                have := (unhid HV).put 4 (.int .i64 (d : Nat))
                rw [vcells_set (by simp [shf])] at this
                exact hid this
              case measure => simp [intOf]
            · have p1 : wr.cell? ⟨gv, 2, none⟩ = some (.int .i64 (c' : Nat)) := by rw [(unhid HV).cell]; exact vcells_get rfl
              have p2 : wr.cell? ⟨gv, 3, none⟩ = some (.int .i64 (d : Nat)) := by rw [(unhid HV).cell]; exact vcells_get rfl
              have p3 : wr.frozen? ⟨gv, 3, none⟩ = false := (unhid HV).free 3
              go_wp2_with fail
              go_roundw
              case rel =>
                refine ⟨2, by omega, rfl, ?_, (unhid HF).setCell (Nat.le_refl gv) _⟩
                have := (unhid HV).put 3 (.int .i64 (c' : Nat))
                rw [vcells_set (by simp [shf])] at this
                exact hid this
              case measure => simp [intOf]
            · have p1 : wr.cell? ⟨gv, 1, none⟩ = some (.int .i64 (b : Nat)) := by rw [(unhid HV).cell]; exact vcells_get rfl
              have p2 : wr.cell? ⟨gv, 2, none⟩ = some (.int .i64 (c' : Nat)) := by rw [(unhid HV).cell]; exact vcells_get rfl
              have p3 : wr.frozen? ⟨gv, 2, none⟩ = false := (unhid HV).free 2
              go_wp2_with fail
              go_roundw
              case rel =>
                refine ⟨1, by omega, rfl, ?_, (unhid HF).setCell (Nat.le_refl gv) _⟩
                have := (unhid HV).put 2 (.int .i64 (b : Nat))
                rw [vcells_set (by simp [shf])] at this
                exact hid this
              case measure => simp [intOf]
            · have p1 : wr.cell? ⟨gv, 0, none⟩ = some (.int .i64 (a : Nat)) := by rw [(unhid HV).cell]; exact vcells_get rfl
              have p2 : wr.cell? ⟨gv, 1, none⟩ = some (.int .i64 (b : Nat)) := by rw [(unhid HV).cell]; exact vcells_get rfl
              have p3 : wr.frozen? ⟨gv, 1, none⟩ = false := (unhid HV).free 1
              go_wp2_with fail
              go_roundw
              case rel =>
                refine ⟨0, by omega, rfl, ?_, (unhid HF).setCell (Nat.le_refl gv) _⟩
                have := (unhid HV).put 1 (.int .i64 (a : Nat))
                rw [vcells_set (by simp [shf])] at this
                exact hid this
              case measure => simp [intOf]
            · have p4 : wr.cell? ⟨gv, 4, none⟩ = some (.int .i64 (d : Nat)) := by rw [(unhid HV).cell]; exact vcells_get rfl
              have p5 : wr.frozen? ⟨gv, 4, none⟩ = false := (unhid HV).free 4
              have p6 : wr.frozen? ⟨gv, 0, none⟩ = false := (unhid HV).free 0
              have p7 : wr.cell? ⟨gv, 0, none⟩ = some (.int .i64 (a : Nat)) := by rw [(unhid HV).cell]; exact vcells_get rfl
              have hb1 := add2_bits d p (by omega) (by omega)
              have hb2 := add2_bits p q (by omega) (by omega)
              obtain ⟨dp, hdp⟩ : ∃ x, (d + p) % 4294967296 = x := ⟨_, rfl⟩
              obtain ⟨pq, hpq⟩ : ∃ x, (p + q) % 4294967296 = x := ⟨_, rfl⟩
              rw [hdp] at hb1
              rw [hpq] at hb2
              have HDP := hid hdp; have HPQ := hid hpq
              clear hdp hpq
              go_wp2_with fail
              go_roundw
              case rel =>
                refine ⟨k + 1, by omega, by go_num, ?_, hid (((unhid HF).setCell (p := ⟨gv, 4, none⟩) (Nat.le_refl gv) _).setCell (p := ⟨gv, 0, none⟩) (Nat.le_refl gv) _)⟩
                have := ((unhid HV).put 4 (.int .i64 (dp : Nat))).put 0 (.int .i64 (pq : Nat))
                rw [vcells_set (by simp [shf]), vcells_set (by simp [shf])] at this
                have hrd : (((shf a b c' d e f g h 0).set 4 dp).set 0 pq) = Sh2.round [a, b, c', d, e, f, g, h] kk ww := by
                  have e1 : pq = Sh2.add (Sh2.pOf e f g h kk ww) (Sh2.qOf a b c') := by
                    rw [← HPQ.out, ← HPP.out, ← HQQ.out]; unfold Sh2.pOf Sh2.qOf Sh2.add; omega
                  have e2 : dp = Sh2.add d (Sh2.pOf e f g h kk ww) := by
                    rw [← HDP.out, ← HPP.out]; unfold Sh2.pOf Sh2.add; omega
                  rw [e1, e2]; rfl
                rw [hrd, ← HST.out] at this
                exact hid this
              case measure => simp [intOf]; omega
        · have hk64 : k = 64 := by omega
          subst hk64
          obtain ⟨V, hV⟩ : ∃ V, Sh2.rounds Sh2.K (Sh2.words m) 64 s = V := ⟨_, rfl⟩
          rw [hV] at HB vl v32
          have HBL := hid (show Sh2.block s m = List.zipWith Sh2.add V s by rw [← hV]; rfl)
          have zl : (List.zipWith Sh2.add V s).length = 8 := by rw [List.length_zipWith, vl, SL.out]; rfl
          have hz : ∀ (j x y : Nat), V[j]? = some x → s[j]? = some y → (List.zipWith Sh2.add V s)[j]? = some (Sh2.add x y) := fun j x y h1 h2 => by rw [List.getElem?_zipWith, h1, h2]
          rw [← HBL.out] at zl hz
          have HZ := hid hz; have ZL := hid zl; have VL := hid vl; have V32 := hid v32
          obtain ⟨gs, os, rfl, hgs, hcs⟩ := ((unhid HS).below ((unhid E2).mono hD)).cells (by decide)
          have HCS := hid hcs
          clear hV hz zl vl v32 hcs
          go_wp2_with fail
          go_loopw [20] (fun v20 wr => ∃ i : Nat, i ≤ 8 ∧ v20 = .int .i64 i ∧ Hid (Blk wr gv 3 (vcells ((Sh2.block s m).take i ++ V.drop i) X)) ∧ Hid (Below gv w2 wr)) (fun v20 _ => 8 - (intOf v20).toNat)
          case atStart => exact ⟨0, Nat.zero_le _, rfl, HB, HE⟩
          case round =>
            obtain ⟨i, hi, rfl, HV, HF⟩ := hrel
            by_cases hi8 : i < 8
            · obtain ⟨x, hx⟩ : ∃ x, V[i]? = some x := ⟨_, List.getElem?_eq_getElem (by rw [VL.out]; exact hi8)⟩
              obtain ⟨y, hy⟩ : ∃ y, s[i]? = some y := ⟨_, List.getElem?_eq_getElem (by rw [SL.out]; exact hi8)⟩
              have hset := hid (patchN_set ZL.out VL.out hi8 (HZ.out i x y hx hy))
              have c1 : wr.cell? ⟨gv, i, none⟩ = some (.int .i64 (x : Nat)) := by
                rw [(unhid HV).cell]; exact vcells_get (by rw [patchN_at ZL.out VL.out hi8, hx])
              have c2' : wr.cell? ⟨gs, os + i, none⟩ = some (.int .i64 (y : Nat)) := by
                rw [(unhid HF).cell (p := ⟨gs, os + i, none⟩) (by show gs < gv; omega), HCS.out i (by simp [up, SL.out]; exact hi8), List.getElem?_map, up_get, hy]; rfl
              have c3 : wr.frozen? ⟨gv, i, none⟩ = false := (unhid HV).free i
              have bx := V32.out x (List.mem_of_getElem? hx); have by_ := S32.out y (List.mem_of_getElem? hy)
              have j0 : (0 : Int) ≤ (i : Int) := by omega
              have j1 : (i : Int) < 8 := by omega
              have hl8 : i < ((Sh2.block s m).take i ++ V.drop i).length := by rw [List.length_append, List.length_take, List.length_drop, ZL.out, VL.out]; omega
              clear hx hy
              go_wp2_with fail
              go_region
              go_wp2_with fail
              have ev := add2_bits x y (by omega) (by omega)
              rw [ev]
              refine ⟨⟨i + 1, by omega, by go_num, ?_, hid (((unhid HF).drewN 1).setCell (p := ⟨gv, i, none⟩) (Nat.le_refl gv) _)⟩, by simp [intOf]; omega⟩
              have := ((unhid HV).drewN 1).put i (.int .i64 ((x + y) % 4294967296 : Nat))
              rw [vcells_set hl8] at this
              have h2 : ((Sh2.block s m).take i ++ V.drop i).set i ((x + y) % 4294967296) = (Sh2.block s m).take (i + 1) ++ V.drop (i + 1) := hset.out
              rw [h2] at this
              exact hid this
            · have hi88 : i = 8 := by omega
              subst hi88
              have hall : (Sh2.block s m).take 8 ++ V.drop 8 = Sh2.block s m := by
                rw [List.drop_of_length_le (by rw [VL.out]; exact Nat.le_refl _), List.append_nil, List.take_of_length_le (by rw [ZL.out]; exact Nat.le_refl _)]
              rw [hall] at HV
              clear hall
              go_wp2_with fail
              go_ret
              refine ⟨gv, c2, rfl, ?_, hc8, (unhid E2).trans ((unhid HF).mono (by omega))⟩
              exact Blk.row (unhid HV) (unhid HV).lt' (by simp [up, ZL.out]) (fun j hj => by
                rw [Nat.zero_add, vcells, List.getElem?_toArray, List.getElem?_append_left hj])
end Go.Proofs.YtlaoijnlemgdfaaDoor

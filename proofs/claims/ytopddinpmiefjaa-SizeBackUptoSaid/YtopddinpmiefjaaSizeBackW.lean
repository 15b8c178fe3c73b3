/- The walk of the law SizeBack. -/
import Derived.Test.YtopddinpmiefjaaSizeManyW
namespace Go.Proofs.Ytopddinpmiefjaa
set_option linter.unusedVariables false
open Go.RowKit Go.Mny
theorem bytes_same (A B : Option Addr) (n c d D D2 : Nat) (l : List Int) (w : World) (hA : Row w D 1 A n (l.map (Value.int .u8))) (hB : Row w D2 1 B n (l.map (Value.int .u8))) (hn : n ≤ 4611686018427387904) :
    Calls Try.prog 19 #[.slice A n c, .slice B n d] w fun e w' => ∃ k, e = .returned (.bool true) ∧ w.drewN k = w' := by
  have := bytes_any A B n c n d D D2 l l w hA hB hn hn
  unfold BytesPost at this
  rw [decide_eq_true rfl] at this
  exact this
theorem unpackAt_mid (a b c : List Int) (hb : (b.length : Int) < 9223372036854775808) : unpackAt (a ++ (Siz.ofN b.length ++ b) ++ c) (a.length : Nat) = (b, (((a ++ (Siz.ofN b.length ++ b)).length : Nat) : Int), 0) := by
  have e : a ++ (Siz.ofN b.length ++ b) ++ c = a ++ (Siz.ofN b.length ++ (b ++ c)) := by simp
  unfold unpackAt
  rw [e, readAt_mid a (b ++ c) b.length (by omega) hb]
  simp only [ne_eq, not_true_eq_false, if_false]
  rw [if_neg (by simp only [List.length_append]; omega)]
  have h1 : ((a.length : Int) + ((Siz.ofN b.length).length : Nat)).toNat = (a ++ Siz.ofN b.length).length := by rw [List.length_append]; omega
  rw [h1, Int.toNat_natCast, ← List.append_assoc, List.drop_left, List.take_left]
  simp only [List.length_append, Prod.mk.injEq, and_true, true_and]
  omega
set_option maxHeartbeats 2000000 in
set_option maxRecDepth 100000 in
theorem sizeBack_walk (A0 : Option Addr) (n0 c0 : Nat) (l0 : List Int) (a1 : Int) (A2 : Option Addr) (n2 c2 : Nat) (l2 : List Int) (A3 : Option Addr) (n3 c3 : Nat) (l3 : List Int) (w : World) (b0 : n0 ≤ c0) (g0 : c0 ≤ maxLen) (r0 : Row w w.heap.size 1 A0 n0 (l0.map (Value.int .u8))) (f0 : ∀ z ∈ l0, (Lit.int .u8 z).wf = true) (f1 : (Lit.int .i64 a1).wf = true) (b2 : n2 ≤ c2) (g2 : c2 ≤ maxLen) (r2 : Row w w.heap.size 1 A2 n2 (l2.map (Value.int .u8))) (f2 : ∀ z ∈ l2, (Lit.int .u8 z).wf = true) (b3 : n3 ≤ c3) (g3 : c3 ≤ maxLen) (r3 : Row w w.heap.size 1 A3 n3 (l3.map (Value.int .u8))) (f3 : ∀ z ∈ l3, (Lit.int .u8 z).wf = true) (hb : (n0 + 1) + 1 + (n2 + 1) + (n3 + 1) ≤ 1048576) :
    Calls Try.prog 9 #[.slice A0 n0 c0, .int .i64 a1, .slice A2 n2 c2, .slice A3 n3 c3] w fun e w' => e = .returned (.bool true) ∧ Below w.heap.size w w' := by
  have v1 := bounds_i64 f1
  have hl0 := r0.length; have hl2 := r2.length; have hl3 := r3.length
  have B0 := bytes_of_wf f0; have B2 := bytes_of_wf f2; have B3 := bytes_of_wf f3
  have hp2 : (Siz.ofN n2 ++ l2).length ≤ 2097152 := by have := ofN_le n2; rw [List.length_append]; omega
  have bp2 : Siz.Bytes (Siz.ofN n2 ++ l2) := fun x hx => (List.mem_append.1 hx).elim (Siz.ofN_bytes _ (by omega) x) (B2 x)
  have P2 : Hid (∀ W, Row W W.heap.size 1 A2 n2 (l2.map (Value.int .u8)) → Calls Try.prog 18 #[.slice A2 n2 c2] W (Fresh W (Siz.ofN n2 ++ l2))) := fun W h => pack_any A2 n2 c2 l2 W h (by omega)
  have U2 := unpackAt_mid l0 l2 l3 (by omega)
  rw [hl2] at U2
  generalize Siz.ofN n2 ++ l2 = p at *
  have ball2 : Siz.Bytes (l0 ++ p ++ l3) := fun x hx => (List.mem_append.1 hx).elim (fun h => (List.mem_append.1 h).elim (B0 x) (bp2 x)) (B3 x)
  have UC : Hid (∀ (A : Option Addr) (c : Nat) (W : World), Row W W.heap.size 1 A (n0 + p.length + n3) ((l0 ++ p ++ l3).map (Value.int .u8)) → n0 + p.length + n3 ≤ c → Calls Try.prog 21 #[.slice A (n0 + p.length + n3) c, .int .i64 n0] W fun e w' => ∃ A' c', e = .returned (.tuple #[.slice A' n2 c', .int .i64 (n0 + p.length : Nat), .nilIface]) ∧ Own w' W.heap.size 5 1 A' n2 c' (l2.map (Value.int .u8)) ∧ Below W.heap.size W w') := fun A c W h hc => by
    have := unpack_any A (n0 + p.length + n3) c W.heap.size l0.length (l0 ++ p ++ l3) W h ball2 (Nat.le_refl _) (by omega) hc
    unfold UnpackPost at this
    rw [U2] at this
    simp only [hl0, hl2, List.length_append] at this
    exact this
  have LP : Hid (∀ (W : World) (A : Option Addr) (n c : Nat) (q : List Int), Row W W.heap.size 1 A n (q.map (Value.int .u8)) → q.length = n) := fun W A n c q h => h.length
  have hx9 := ofN_le a1
  have X1 : Hid (∀ (h : 0 ≤ a1) (A : Option Addr) (c : Nat) (W : World), Row W W.heap.size 1 A (n0 + (Siz.ofN a1).length + n3) ((l0 ++ Siz.ofN a1 ++ l3).map (Value.int .u8)) → n0 + (Siz.ofN a1).length + n3 ≤ c → Calls Try.prog 20 #[.slice A (n0 + (Siz.ofN a1).length + n3) c, .int .i64 n0] W fun e w' => e = .returned (.tuple #[.int .i64 a1, .int .i64 (n0 + (Siz.ofN a1).length : Nat), .nilIface]) ∧ W = w') := fun h A c W hr hc => by
    have ball : Siz.Bytes (l0 ++ Siz.ofN a1 ++ l3) := fun x hx => (List.mem_append.1 hx).elim (fun h' => (List.mem_append.1 h').elim (B0 x) (Siz.ofN_bytes a1 h x)) (B3 x)
    have := read_any A (n0 + (Siz.ofN a1).length + n3) c W.heap.size l0.length (l0 ++ Siz.ofN a1 ++ l3) W hr ball (by omega) hc
    unfold ReadPost at this
    rw [List.append_assoc, readAt_mid l0 l3 a1 h (by omega)] at this
    simp only [hl0] at this
    exact this
  have WM : Hid (∀ (hm : 0 ≤ a1), ∀ W, Calls Try.prog 16 #[.int .i64 a1] W fun e w' => ∃ A c, e = .returned (.tuple #[.slice A (Siz.ofN a1).length c, .nilIface]) ∧ Own w' W.heap.size 5 1 A (Siz.ofN a1).length c ((Siz.ofN a1).map (Value.int .u8)) ∧ Below W.heap.size W w') := fun hm W => write_ok a1 W hm v1.2
  generalize Siz.ofN a1 = x at *
  have R0 := hid r0; have R2 := hid r2; have R3 := hid r3
  have Q3 : Hid (∀ W, Row W w.heap.size 1 A3 n3 (l3.map (Value.int .u8)) → Calls Try.prog 20 #[.slice A3 n3 c3, .int .i64 0] W (ReadPost W l3 0)) := fun W h => read_any A3 n3 c3 _ 0 l3 W h B3 (by omega) b3
  have OK3 : Hid (∀ m nx, readAt l3 0 = (m, nx, 0) → 0 ≤ m ∧ m < 9223372036854775808 ∧ 1 ≤ nx ∧ nx ≤ (n3 : Int) ∧ Siz.ofN m = l3.take nx.toNat) := fun m nx h => by
    have := readAt_ok B3 h
    simp only [Int.sub_zero, Int.toNat_zero, List.drop_zero] at this
    exact ⟨this.2.1, this.2.2.1, by omega, by omega, this.2.2.2.2.2⟩
  have b3' := b3
  clear r0 r2 r3 f0 f1 f2 f3 g0 g2 g3 B0 B2 B3 U2 LP ball2 bp2 hl2 hl3 hl0
  go_enter Try.func9, Try.ntmps9
  go_wp2_with fail
  refine (fact300 _).mono ?_
  rintro e w1 ⟨Af, cf, rfl, hof, hb1⟩
  have HB1 := hid hb1; have HOF := hid hof; clear hof hb1
  go_wp2_with fail
  refine (bytes_same Af _ 3 cf 3 _ _ [253, 1, 44] _ ((Row.of_own (unhid HOF)).alloc (Nat.le_refl _) _) (Row.lit_at _ _ _ _ _ _ rfl rfl rfl) (by omega)).mono ?_
  rintro e w' ⟨k, rfl, rfl⟩
  have HB2 := hid (((unhid HB1).alloc (unhid HB1).size (.cells #[.int .u8 253, .int .u8 1, .int .u8 44] 5)).drewN k)
  go_wp2_with fail
  generalize (w1.alloc (.cells #[.int .u8 253, .int .u8 1, .int .u8 44] 5)).drewN k = W2 at *
  by_cases hm : a1 < 0
  · refine (write_err a1 _ hm).mono ?_
    rintro e w' ⟨rfl, rfl⟩
    have HC := HB2
    go_wp2_with (at_builtin; refine halt_at (fun K hK => ?_))
    refine go_on hK ?_; clear hK
    have hsz := (unhid HC).size
    refine app_new bytesE rfl (.tmp 77) (.tmp 78) rfl rfl (Own.lit_at _ _ 5 1 0 _ _ [] rfl (Nat.le_refl _) (by decide) rfl rfl) rfl (((unhid R0).below (unhid HC)).alloc hsz _) (ints_one .u8 l0) (by simp [maxLen]; omega) (by omega) (by simp) ?_
    intro A7 c7 w7 o7 g7 l7
    have b7 := Below.grown ((Below.refl _ _).alloc (Nat.le_refl _) _) g7 (by simp) (fun q hq => by simp [at_] at hq; omega)
    have HO7 := hid o7; have HB7 := hid b7
    clear o7 b7 g7 l7
    have hsz7 := (unhid HB7).size
    go_wp2_with fail
    refine (unhid P2 _ ((((unhid R2).below (unhid HC)).more hsz).below (unhid HB7) |>.more hsz7)).mono ?_
    rintro e wp ⟨Ap, cp, rfl, hop, hbp⟩
    have HO8 := hid ((unhid HO7).below hbp (Nat.le_refl _))
    have HB8 := hid ((unhid HB7).trans (hbp.mono hsz7))
    have RP := hid (Row.of_own hop)
    clear hop hbp
    have hsz8 := (unhid HB8).size
    go_wp2_with (at_builtin; refine halt_at (fun K hK => ?_))
    refine go_on hK ?_; clear hK
    refine app_step bytesE rfl (.tmp 79) (.tmp 81) rfl rfl (unhid HO8) rfl (unhid RP) (ints_one .u8 p) (by simp [maxLen]; omega) (by omega) (unhid HB8).size ?_
    intro A9 c9 w9 o9 g9 l9
    have b9 := Below.grown (unhid HB8) g9 (unhid HB8).size (fun q hq => ((unhid HO8).from_ q hq).1)
    have HO9 := hid o9; have HB9 := hid b9
    clear o9 b9 g9 l9
    go_wp2_with (at_builtin; refine halt_at (fun K hK => ?_))
    refine go_on hK ?_; clear hK
    refine app_step bytesE rfl (.tmp 82) (.tmp 83) rfl rfl (unhid HO9) rfl ((((unhid R3).below (unhid HC)).more hsz).below (unhid HB9)) (ints_one .u8 l3) (by simp [maxLen]; omega) (by omega) (unhid HB9).size ?_
    intro A10 c10 w10 o10 g10 l10
    have b10 := Below.grown (unhid HB9) g10 (unhid HB9).size (fun q hq => ((unhid HO9).from_ q hq).1)
    rw [← List.map_append, ← List.map_append] at o10
    have HD := hid ((unhid HC).trans (b10.mono hsz))
    have R10 := hid (Row.of_own o10)
    have hc10 := o10.le.1
    clear o10 b10 g10 l10 HO9 HO8 HO7 HB9 HB8 HB7
    go_wp2_with fail
    refine (unhid UC A10 c10 _ (unhid R10) hc10).mono ?_
    rintro e wu ⟨Au, cu, rfl, hou, hbu⟩
    have HE := hid ((unhid HD).trans (hbu.mono (unhid HD).size))
    have RU := hid (Row.of_own hou)
    clear hou hbu
    go_wp2_with fail
    refine (bytes_same Au A2 n2 cu c2 _ _ l2 _ (unhid RU) ((unhid R2).below (unhid HE)) (by omega)).mono ?_
    rintro e w' ⟨k2, rfl, rfl⟩
    have HF := hid ((unhid HE).drewN k2)
    have hw1 : IntKind.i64.wrap ((n0 + p.length + n3 : Nat) - (n3 : Int)) = (n0 + p.length : Nat) := by
      rw [IntWalk.i64_in _ (by omega)]; omega
    go_wp2_with fail
    have Q := unhid Q3 _ ((unhid R3).below (unhid HF))
    generalize hr : readAt l3 0 = r at Q OK3
    obtain ⟨m, nx, e3⟩ := r
    by_cases he : e3 = 0
    · subst he
      obtain ⟨g0, g1, g2, g3, g4⟩ := OK3.out m nx rfl
      have Q4 : Hid (Calls Try.prog 20 #[.slice A3 n3 c3, .int .i64 0] (wu.drewN k2) fun e w' => e = .returned (.tuple #[.int .i64 m, .int .i64 nx, .nilIface]) ∧ wu.drewN k2 = w') := by
        unfold ReadPost at Q; rw [hr] at Q; exact Q
      obtain ⟨j, rfl⟩ := Int.eq_ofNat_of_zero_le (show 0 ≤ nx by omega)
      have hj3 : j ≤ n3 := by omega
      rw [Int.toNat_natCast] at g4
      have G4 := hid g4
      clear Q hr g4 OK3 Q3 g2 g3
      refine (unhid Q4).mono ?_
      rintro e w' ⟨rfl, rfl⟩
      go_wp2_with fail
      refine (write_ok m _ g0 (by omega)).mono ?_
      rintro e wz ⟨Az, cz, rfl, hoz, hbz⟩
      rw [G4.out] at hoz
      have hlt : (Siz.ofN m).length = j := by rw [G4.out, List.length_take]; have := ((unhid R3).length); omega
      rw [G4.out] at hlt
      rw [G4.out, hlt] 
      rw [hlt] at hoz
      have HG := hid ((unhid HF).trans (hbz.mono (unhid HF).size))
      have RZ := hid (Row.of_own hoz)
      clear hoz hbz hlt
      go_wp2_with (with_reducible refine halt_op (some 127) (.slice _ _ _ _ _) (fun K hK => ?_))
      refine go_on hK ?_; clear hK
      refine slice_step bytesE rfl (.tmp 125) none (some (.tmp 126)) rfl rfl (.out _) (.at_ (k := .i64) (i := j) rfl) ((unhid R3).below (unhid HG)) (by omega) hj3 b3' ?_
      intro AS RS0
      simp only [Nat.mul_one, List.drop_zero, ← List.map_take, Nat.sub_zero] at RS0
      have RS := hid RS0; clear RS0
      rw [Nat.sub_zero, Nat.sub_zero]
      generalize List.take j l3 = lt at RS RZ
      go_wp2_with fail
      refine (bytes_same Az AS j cz c3 _ _ lt _ (unhid RZ) (unhid RS) (by omega)).mono ?_
      rintro e w' ⟨k3, rfl, rfl⟩
      go_wp2_with fail
      go_ret
      exact ⟨rfl, (unhid HG).drewN k3⟩
    · have Q4 : Hid (Calls Try.prog 20 #[.slice A3 n3 c3, .int .i64 0] (wu.drewN k2) fun e w' => e = .returned (.tuple #[.int .i64 m, .int .i64 nx, .iface 22 (.int .i64 e3)]) ∧ wu.drewN k2 = w') := by
        have hv : errV' e3 = .iface 22 (.int .i64 e3) := if_neg he
        unfold ReadPost at Q; rw [hr, hv] at Q; exact Q
      clear Q hr OK3 Q3
      refine (unhid Q4).mono ?_
      rintro e w' ⟨rfl, rfl⟩
      go_wp2_with fail
      go_ret
      exact ⟨rfl, unhid HF⟩
  · refine (unhid WM (by omega) _).mono ?_
    rintro e w3 ⟨Ax, cx, rfl, hox, hbx⟩
    have HB := hid ((unhid HB2).trans (hbx.mono (unhid HB2).size))
    have RM := hid (Row.of_own hox)
    clear hox hbx
    go_wp2_with (at_builtin; refine halt_at (fun K hK => ?_))
    refine go_on hK ?_; clear hK
    have hsz := (unhid HB).size
    refine app_new bytesE rfl (.tmp 46) (.tmp 47) rfl rfl (Own.lit_at _ _ 5 1 0 _ _ [] rfl (Nat.le_refl _) (by decide) rfl rfl) rfl (((unhid R0).below (unhid HB)).alloc hsz _) (ints_one .u8 l0) (by simp [maxLen]; omega) (by omega) (by simp) ?_
    intro A4 c4 w4 o4 g4 l4
    have b4 := Below.grown ((Below.refl _ _).alloc (Nat.le_refl _) _) g4 (by simp) (fun q hq => by simp [at_] at hq; omega)
    have HO4 := hid o4; have HB4 := hid b4
    clear o4 b4 g4 l4
    go_wp2_with (at_builtin; refine halt_at (fun K hK => ?_))
    refine go_on hK ?_; clear hK
    refine app_step bytesE rfl (.tmp 48) (.tmp 49) rfl rfl (unhid HO4) rfl ((unhid RM).below (unhid HB4)) (ints_one .u8 x) (by simp [maxLen]; omega) (by omega) (unhid HB4).size ?_
    intro A5 c5 w5 o5 g5 l5
    have b5 := Below.grown (unhid HB4) g5 (unhid HB4).size (fun q hq => ((unhid HO4).from_ q hq).1)
    have HO5 := hid o5; have HB5 := hid b5
    clear o5 b5 g5 l5
    go_wp2_with (at_builtin; refine halt_at (fun K hK => ?_))
    refine go_on hK ?_; clear hK
    refine app_step bytesE rfl (.tmp 50) (.tmp 51) rfl rfl (unhid HO5) rfl ((((unhid R3).below (unhid HB)).more hsz).below (unhid HB5)) (ints_one .u8 l3) (by simp [maxLen]; omega) (by omega) (unhid HB5).size ?_
    intro A6 c6 w6 o6 g6 l6
    have b6 := Below.grown (unhid HB5) g6 (unhid HB5).size (fun q hq => ((unhid HO5).from_ q hq).1)
    rw [← List.map_append, ← List.map_append] at o6
    have HC := hid ((unhid HB).trans (b6.mono hsz))
    have R6 := hid (Row.of_own o6)
    have hc6 := o6.le.1
    clear o6 b6 g6 l6 HO4 HO5 HB4 HB5

    go_wp2_with fail
    refine (unhid X1 (by omega) A6 c6 _ (unhid R6) hc6).mono ?_
    rintro e w' ⟨rfl, rfl⟩
    clear R6 hc6 RM HB hsz
    go_wp2_with (at_builtin; refine halt_at (fun K hK => ?_))

    refine go_on hK ?_; clear hK
    have hsz := (unhid HC).size
    refine app_new bytesE rfl (.tmp 77) (.tmp 78) rfl rfl (Own.lit_at _ _ 5 1 0 _ _ [] rfl (Nat.le_refl _) (by decide) rfl rfl) rfl (((unhid R0).below (unhid HC)).alloc hsz _) (ints_one .u8 l0) (by simp [maxLen]; omega) (by omega) (by simp) ?_
    intro A7 c7 w7 o7 g7 l7
    have b7 := Below.grown ((Below.refl _ _).alloc (Nat.le_refl _) _) g7 (by simp) (fun q hq => by simp [at_] at hq; omega)
    have HO7 := hid o7; have HB7 := hid b7
    clear o7 b7 g7 l7
    have hsz7 := (unhid HB7).size
    go_wp2_with fail
    refine (unhid P2 _ ((((unhid R2).below (unhid HC)).more hsz).below (unhid HB7) |>.more hsz7)).mono ?_
    rintro e wp ⟨Ap, cp, rfl, hop, hbp⟩
    have HO8 := hid ((unhid HO7).below hbp (Nat.le_refl _))
    have HB8 := hid ((unhid HB7).trans (hbp.mono hsz7))
    have RP := hid (Row.of_own hop)
    clear hop hbp
    have hsz8 := (unhid HB8).size
    go_wp2_with (at_builtin; refine halt_at (fun K hK => ?_))
    refine go_on hK ?_; clear hK
    refine app_step bytesE rfl (.tmp 79) (.tmp 81) rfl rfl (unhid HO8) rfl (unhid RP) (ints_one .u8 p) (by simp [maxLen]; omega) (by omega) (unhid HB8).size ?_
    intro A9 c9 w9 o9 g9 l9
    have b9 := Below.grown (unhid HB8) g9 (unhid HB8).size (fun q hq => ((unhid HO8).from_ q hq).1)
    have HO9 := hid o9; have HB9 := hid b9
    clear o9 b9 g9 l9
    go_wp2_with (at_builtin; refine halt_at (fun K hK => ?_))
    refine go_on hK ?_; clear hK
    refine app_step bytesE rfl (.tmp 82) (.tmp 83) rfl rfl (unhid HO9) rfl ((((unhid R3).below (unhid HC)).more hsz).below (unhid HB9)) (ints_one .u8 l3) (by simp [maxLen]; omega) (by omega) (unhid HB9).size ?_
    intro A10 c10 w10 o10 g10 l10
    have b10 := Below.grown (unhid HB9) g10 (unhid HB9).size (fun q hq => ((unhid HO9).from_ q hq).1)
    rw [← List.map_append, ← List.map_append] at o10
    have HD := hid ((unhid HC).trans (b10.mono hsz))
    have R10 := hid (Row.of_own o10)
    have hc10 := o10.le.1
    clear o10 b10 g10 l10 HO9 HO8 HO7 HB9 HB8 HB7
    go_wp2_with fail
    refine (unhid UC A10 c10 _ (unhid R10) hc10).mono ?_
    rintro e wu ⟨Au, cu, rfl, hou, hbu⟩
    have HE := hid ((unhid HD).trans (hbu.mono (unhid HD).size))
    have RU := hid (Row.of_own hou)
    clear hou hbu
    go_wp2_with fail
    refine (bytes_same Au A2 n2 cu c2 _ _ l2 _ (unhid RU) ((unhid R2).below (unhid HE)) (by omega)).mono ?_
    rintro e w' ⟨k2, rfl, rfl⟩
    have HF := hid ((unhid HE).drewN k2)
    have hw1 : IntKind.i64.wrap ((n0 + p.length + n3 : Nat) - (n3 : Int)) = (n0 + p.length : Nat) := by
      rw [IntWalk.i64_in _ (by omega)]; omega
    go_wp2_with fail
    have Q := unhid Q3 _ ((unhid R3).below (unhid HF))
    generalize hr : readAt l3 0 = r at Q OK3
    obtain ⟨m, nx, e3⟩ := r
    by_cases he : e3 = 0
    · subst he
      obtain ⟨g0, g1, g2, g3, g4⟩ := OK3.out m nx rfl
      have Q4 : Hid (Calls Try.prog 20 #[.slice A3 n3 c3, .int .i64 0] (wu.drewN k2) fun e w' => e = .returned (.tuple #[.int .i64 m, .int .i64 nx, .nilIface]) ∧ wu.drewN k2 = w') := by
        unfold ReadPost at Q; rw [hr] at Q; exact Q
      obtain ⟨j, rfl⟩ := Int.eq_ofNat_of_zero_le (show 0 ≤ nx by omega)
      have hj3 : j ≤ n3 := by omega
      rw [Int.toNat_natCast] at g4
      have G4 := hid g4
      clear Q hr g4 OK3 Q3 g2 g3
      refine (unhid Q4).mono ?_
      rintro e w' ⟨rfl, rfl⟩
      go_wp2_with fail
      refine (write_ok m _ g0 (by omega)).mono ?_
      rintro e wz ⟨Az, cz, rfl, hoz, hbz⟩
      rw [G4.out] at hoz
      have hlt : (Siz.ofN m).length = j := by rw [G4.out, List.length_take]; have := ((unhid R3).length); omega
      rw [G4.out] at hlt
      rw [G4.out, hlt] 
      rw [hlt] at hoz
      have HG := hid ((unhid HF).trans (hbz.mono (unhid HF).size))
      have RZ := hid (Row.of_own hoz)
      clear hoz hbz hlt
      go_wp2_with (with_reducible refine halt_op (some 127) (.slice _ _ _ _ _) (fun K hK => ?_))
      refine go_on hK ?_; clear hK
      refine slice_step bytesE rfl (.tmp 125) none (some (.tmp 126)) rfl rfl (.out _) (.at_ (k := .i64) (i := j) rfl) ((unhid R3).below (unhid HG)) (by omega) hj3 b3' ?_
      intro AS RS0
      simp only [Nat.mul_one, List.drop_zero, ← List.map_take, Nat.sub_zero] at RS0
      have RS := hid RS0; clear RS0
      rw [Nat.sub_zero, Nat.sub_zero]
      generalize List.take j l3 = lt at RS RZ
      go_wp2_with fail
      refine (bytes_same Az AS j cz c3 _ _ lt _ (unhid RZ) (unhid RS) (by omega)).mono ?_
      rintro e w' ⟨k3, rfl, rfl⟩
      go_wp2_with fail
      go_ret
      exact ⟨rfl, (unhid HG).drewN k3⟩
    · have Q4 : Hid (Calls Try.prog 20 #[.slice A3 n3 c3, .int .i64 0] (wu.drewN k2) fun e w' => e = .returned (.tuple #[.int .i64 m, .int .i64 nx, .iface 22 (.int .i64 e3)]) ∧ wu.drewN k2 = w') := by
        have hv : errV' e3 = .iface 22 (.int .i64 e3) := if_neg he
        unfold ReadPost at Q; rw [hr, hv] at Q; exact Q
      clear Q hr OK3 Q3
      refine (unhid Q4).mono ?_
      rintro e w' ⟨rfl, rfl⟩
      go_wp2_with fail
      go_ret
      exact ⟨rfl, unhid HF⟩

end Go.Proofs.Ytopddinpmiefjaa

/- Walks of moneyerlaw1.starts and the law SizeApart. -/
import Derived.Test.YtopddinpmiefjaaUnpackW
import Derived.OpenShut
namespace Go.Proofs.Ytopddinpmiefjaa
set_option linter.unusedVariables false
open Go.RowKit Go.Mny
theorem bytes_of_wf {l : List Int} (h : ∀ z ∈ l, (Lit.int .u8 z).wf = true) : Siz.Bytes l := fun z hz => by have := bounds_u8 (h z hz); omega
theorem own_row {w : World} {B D e n c : Nat} {A : Option Addr} {cs : List Value} (h : Own w B e 1 A n c cs) (hD : D = w.heap.size) : Row w D 1 A n cs := hD ▸ Row.of_own h
def StartsPost (w : World) (l r : List Int) (e : Ending) (w' : World) : Prop := ∃ k, e = .returned (.bool (decide (l.take r.length = r))) ∧ w.drewN k = w'
theorem starts_any (A B : Option Addr) (n c m d D D2 : Nat) (l r : List Int) (w : World) (hA : Row w D 1 A n (l.map (Value.int .u8))) (hB : Row w D2 1 B m (r.map (Value.int .u8))) (hn : n ≤ 4611686018427387904) (hm : m ≤ 4611686018427387904) (hc : n ≤ c) :
    Calls Try.prog 17 #[.slice A n c, .slice B m d] w (StartsPost w l r) := by
  have ll := hA.length
  have lr := hB.length
  have HA := hid hA; have HB := hid hB; clear hA hB
  by_cases hnm : n < m
  · have hf := hid (show decide (l.take r.length = r) = false from decide_eq_false (fun h => by have := congrArg List.length h; rw [List.length_take] at this; omega))
    clear ll lr
    go_enter Try.func17, Try.ntmps17
    go_wp2
    go_ret
    exact ⟨0, by rw [hf.out]; rfl, rfl⟩
  · have LR := hid lr
    clear ll lr
    have hmn : m ≤ n := by omega
    go_enter Try.func17, Try.ntmps17
    go_wp2_with (with_reducible refine halt_op (some 14) (.slice _ _ _ _ _) (fun K hK => ?_))
    refine go_on hK ?_; clear hK
    refine slice_step bytesE rfl (.tmp 11) none (some (.tmp 13)) rfl rfl (.out _) (.at_ (k := .i64) (i := m) rfl) (unhid HA) (by omega) hmn hc ?_
    intro A2 R2
    rw [Nat.mul_one, List.drop_zero, ← List.map_take, Nat.sub_zero] at R2
    have R := hid R2; clear R2
    rw [Nat.sub_zero, Nat.sub_zero]
    have C := hid (bytes_any A2 B m c m d _ _ _ _ _ R.out (unhid HB) (by omega) (by omega))
    clear R
    go_wp2_with fail
    refine (unhid C).mono ?_
    rintro e w' ⟨k, rfl, rfl⟩
    go_wp2_with fail
    go_ret
    refine ⟨k, ?_, rfl⟩
    rw [LR.out]; rfl
theorem fact300 (w : World) :
    Calls Try.prog 16 #[.int .i64 300] w fun e w' => ∃ A c, e = .returned (.tuple #[.slice A 3 c, .nilIface]) ∧ Own w' w.heap.size 5 1 A 3 c (([253, 1, 44] : List Int).map (Value.int .u8)) ∧ Below w.heap.size w w' := by
  have h := write_ok 300 w (by omega) (by omega)
  have e : Siz.ofN 300 = [253, 1, 44] := by decide +kernel
  rw [e] at h
  exact h
theorem pre_len (m n : Int) (hm : 0 ≤ m) (hm1 : m ≤ 9223372036854775807) (hn : 0 ≤ n) (hn1 : n ≤ 9223372036854775807) (b c : List Int) (h : (Siz.ofN n ++ c).take (Siz.ofN m ++ b).length = Siz.ofN m ++ b) : m = n :=
  Siz.apart m n hm (by omega) hn (by omega) (b ++ (Siz.ofN n ++ c).drop (Siz.ofN m ++ b).length) c (by
    rw [← List.append_assoc]
    generalize Siz.ofN m ++ b = x at h ⊢
    conv => lhs; lhs; rw [← h]
    exact List.take_append_drop _ _)
theorem pre_iff (m n : Int) (hm : 0 ≤ m) (hm1 : m ≤ 9223372036854775807) (hn : 0 ≤ n) (hn1 : n ≤ 9223372036854775807) : decide ((Siz.ofN n).take (Siz.ofN m).length = Siz.ofN m) = decide (m = n) := by
  by_cases h : m = n
  · subst h; rw [List.take_length, decide_eq_true rfl, decide_eq_true rfl]
  · rw [decide_eq_false h]
    refine decide_eq_false fun e => h ?_
    have := pre_len m n hm hm1 hn hn1 [] []
    rw [List.append_nil, List.append_nil] at this
    exact this e
theorem pack_iff (b c : List Int) (hb : b.length ≤ 9223372036854775807) (hc : c.length ≤ 9223372036854775807) : decide ((Siz.ofN c.length ++ c).take (Siz.ofN b.length ++ b).length = Siz.ofN b.length ++ b) = decide (b = c) := by
  by_cases h : b = c
  · subst h; rw [List.take_length, decide_eq_true rfl, decide_eq_true rfl]
  · rw [decide_eq_false h]
    refine decide_eq_false fun e => h ?_
    have hl := pre_len b.length c.length (by omega) (by omega) (by omega) (by omega) b c e
    have hl' : b.length = c.length := by omega
    rw [hl', List.take_of_length_le (by simp [hl'])] at e
    exact (List.append_cancel_left e).symm
set_option maxHeartbeats 1000000 in
set_option maxRecDepth 100000 in
theorem sizeApart_walk (a0 : Int) (a1 : Int) (A2 : Option Addr) (n2 c2 : Nat) (l2 : List Int) (A3 : Option Addr) (n3 c3 : Nat) (l3 : List Int) (w : World) (f0 : (Lit.int .i64 a0).wf = true) (f1 : (Lit.int .i64 a1).wf = true) (b2 : n2 ≤ c2) (g2 : c2 ≤ maxLen) (r2 : Row w w.heap.size 1 A2 n2 (l2.map (Value.int .u8))) (f2 : ∀ z ∈ l2, (Lit.int .u8 z).wf = true) (b3 : n3 ≤ c3) (g3 : c3 ≤ maxLen) (r3 : Row w w.heap.size 1 A3 n3 (l3.map (Value.int .u8))) (f3 : ∀ z ∈ l3, (Lit.int .u8 z).wf = true) (rb2 : n2 * 1 ≤ 140737488351232) (rb3 : n3 * 1 ≤ 140737488351232) :
    Calls Try.prog 7 #[.int .i64 a0, .int .i64 a1, .slice A2 n2 c2, .slice A3 n3 c3] w fun e w' => e = .returned (.bool true) ∧ Below w.heap.size w w' := by
  have v0 := bounds_i64 f0
  have v1 := bounds_i64 f1
  have hl2 := r2.length; have hl3 := r3.length
  obtain ⟨t, ht⟩ : ∃ t, decide (l2 = l3) = t := ⟨_, rfl⟩
  have PK := pack_iff l2 l3 (by omega) (by omega)
  rw [hl2, hl3, ht] at PK
  have wl : ∀ n : Int, (Siz.ofN n).length ≤ 9 := fun n => by
    rw [Siz.ofN_length]
    rcases Siz.wide_cases n with ⟨_, e⟩ | ⟨_, _, e⟩ | ⟨_, _, e⟩ | ⟨_, e⟩ <;> rw [e] <;> omega
  have hq2 : (Siz.ofN n2 ++ l2).length ≤ 140737488351300 := by have := wl n2; rw [List.length_append]; omega
  have hq3 : (Siz.ofN n3 ++ l3).length ≤ 140737488351300 := by have := wl n3; rw [List.length_append]; omega
  have P2 : Hid (∀ W, Row W W.heap.size 1 A2 n2 (l2.map (Value.int .u8)) → Calls Try.prog 18 #[.slice A2 n2 c2] W (Fresh W (Siz.ofN n2 ++ l2))) := fun W h => pack_any A2 n2 c2 l2 W h (by omega)
  have P3 : Hid (∀ W, Row W W.heap.size 1 A3 n3 (l3.map (Value.int .u8)) → Calls Try.prog 18 #[.slice A3 n3 c3] W (Fresh W (Siz.ofN n3 ++ l3))) := fun W h => pack_any A3 n3 c3 l3 W h (by omega)
  generalize Siz.ofN n2 ++ l2 = q2 at *
  generalize Siz.ofN n3 ++ l3 = q3 at *
  have PK2 : Hid (∀ W Ap cp Aq cq, Row W W.heap.size 1 Ap q2.length (q2.map (Value.int .u8)) → Row W W.heap.size 1 Aq q3.length (q3.map (Value.int .u8)) → q3.length ≤ cq → Calls Try.prog 17 #[.slice Aq q3.length cq, .slice Ap q2.length cp] W fun e w' => ∃ k, e = .returned (.bool t) ∧ W.drewN k = w') := fun W Ap cp Aq cq h1 h2 h3 => by
    have := starts_any Aq Ap q3.length cq q2.length cp _ _ q3 q2 W h2 h1 (by omega) (by omega) h3
    unfold StartsPost at this
    rw [PK] at this
    exact this
  have SB : Hid (∀ W, Row W W.heap.size 1 A2 n2 (l2.map (Value.int .u8)) → Row W W.heap.size 1 A3 n3 (l3.map (Value.int .u8)) → Calls Try.prog 19 #[.slice A2 n2 c2, .slice A3 n3 c3] W fun e w' => ∃ k, e = .returned (.bool t) ∧ W.drewN k = w') := fun W h2 h3 => by
    have := bytes_any A2 A3 n2 c2 n3 c3 _ _ l2 l3 W h2 h3 (by omega) (by omega)
    unfold BytesPost at this
    rw [ht] at this
    exact this
  have PI := fun hm hn => pre_iff a0 a1 hm v0.2 hn v1.2
  have LO := hid (Siz.longer a0 a1)
  have LO2 := hid (Siz.longer a1 a0)
  have WM : ∀ hm : 0 ≤ a0, Hid (∀ W, Calls Try.prog 16 #[.int .i64 a0] W fun e w' => ∃ A c, e = .returned (.tuple #[.slice A (Siz.ofN a0).length c, .nilIface]) ∧ Own w' W.heap.size 5 1 A (Siz.ofN a0).length c ((Siz.ofN a0).map (Value.int .u8)) ∧ Below W.heap.size W w') := fun hm W => write_ok a0 W hm v0.2
  have WN : ∀ hn : 0 ≤ a1, Hid (∀ W, Calls Try.prog 16 #[.int .i64 a1] W fun e w' => ∃ A c, e = .returned (.tuple #[.slice A (Siz.ofN a1).length c, .nilIface]) ∧ Own w' W.heap.size 5 1 A (Siz.ofN a1).length c ((Siz.ofN a1).map (Value.int .u8)) ∧ Below W.heap.size W w') := fun hn W => write_ok a1 W hn v1.2
  have wx := wl a0; have wy := wl a1
  have R2 := hid r2; have R3 := hid r3
  generalize Siz.ofN a0 = x at *
  generalize Siz.ofN a1 = y at *
  clear r2 r3 wl hl2 hl3 f0 f1 f2 f3 g2 g3 PK ht v0 v1
  have SX : Hid (∀ W Ax cx Ay cy, (hm : 0 ≤ a0) → (hn : 0 ≤ a1) → Row W W.heap.size 1 Ax x.length (x.map (Value.int .u8)) → Row W W.heap.size 1 Ay y.length (y.map (Value.int .u8)) → y.length ≤ cy → Calls Try.prog 17 #[.slice Ay y.length cy, .slice Ax x.length cx] W fun e w' => ∃ k, e = .returned (.bool (decide (a0 = a1))) ∧ W.drewN k = w') := fun W Ax cx Ay cy hm hn h1 h2 h3 => by
    have := starts_any Ay Ax y.length cy x.length cx _ _ y x W h2 h1 (by omega) (by omega) h3
    unfold StartsPost at this
    rw [PI hm hn] at this
    exact this
  clear PI
  have SXt : Hid (∀ W Ax cx Ay cy, (hm : 0 ≤ a0) → (hn : 0 ≤ a1) → a0 = a1 → Row W W.heap.size 1 Ax x.length (x.map (Value.int .u8)) → Row W W.heap.size 1 Ay y.length (y.map (Value.int .u8)) → y.length ≤ cy → Calls Try.prog 17 #[.slice Ay y.length cy, .slice Ax x.length cx] W fun e w' => ∃ k, e = .returned (.bool true) ∧ W.drewN k = w') := fun W Ax cx Ay cy hm hn he h1 h2 h3 => by
    have := SX.out W Ax cx Ay cy hm hn h1 h2 h3; rw [decide_eq_true he] at this; exact this
  have SXf : Hid (∀ W Ax cx Ay cy, (hm : 0 ≤ a0) → (hn : 0 ≤ a1) → ¬ a0 = a1 → Row W W.heap.size 1 Ax x.length (x.map (Value.int .u8)) → Row W W.heap.size 1 Ay y.length (y.map (Value.int .u8)) → y.length ≤ cy → Calls Try.prog 17 #[.slice Ay y.length cy, .slice Ax x.length cx] W fun e w' => ∃ k, e = .returned (.bool false) ∧ W.drewN k = w') := fun W Ax cx Ay cy hm hn he h1 h2 h3 => by
    have := SX.out W Ax cx Ay cy hm hn h1 h2 h3; rw [decide_eq_false he] at this; exact this
  clear SX
  go_enter Try.func7, Try.ntmps7
  go_wp2_with fail
  refine (fact300 _).mono ?_
  rintro e w1 ⟨Af, cf, rfl, hof, hb1⟩
  have HB1 := hid hb1; clear hof hb1
  go_wp2_with fail
  by_cases hm : a0 < 0
  · refine (write_err a0 _ hm).mono ?_
    rintro e w' ⟨rfl, rfl⟩
    go_wp2_with fail
    by_cases hn : a1 < 0
    · refine (write_err a1 _ hn).mono ?_
      rintro e w' ⟨rfl, rfl⟩
      have HB := HB1
      go_wp2_with fail
      refine (unhid P2 _ (((unhid R2).below (unhid HB)).more (unhid HB).size)).mono ?_
      rintro e wp ⟨Ap, cp, rfl, hop, hbp⟩
      have OP := hid hop; have BP := hid hbp; clear hop hbp
      go_wp2_with fail
      refine (unhid P3 _ ((((unhid R3).below (unhid HB)).more (unhid HB).size).below (unhid BP) |>.more (unhid BP).size)).mono ?_
      rintro e wq ⟨Aq, cq, rfl, hoq, hbq⟩
      have OQ := hid hoq; have BQ := hid hbq; clear hoq hbq
      have BA := hid (((unhid HB).trans ((unhid BP).mono (unhid HB).size)).trans ((unhid BQ).mono (Nat.le_trans (unhid HB).size (unhid BP).size)))
      go_wp2_with fail
      refine (unhid SB _ (((unhid R2).below (unhid BA)).more (unhid BA).size) (((unhid R3).below (unhid BA)).more (unhid BA).size)).mono ?_
      rintro e w' ⟨k, rfl, rfl⟩
      go_wp2_with fail
      refine (unhid PK2 _ Ap cp Aq cq (Row.drewN (((Row.of_own (unhid OP)).below (unhid BQ)).more (unhid BQ).size) k) (Row.drewN (Row.of_own (unhid OQ)) k) (unhid OQ).le.1).mono ?_
      rintro e w' ⟨k2, rfl, rfl⟩
      go_wp2_with fail
      go_ret
      exact ⟨by simp, by first | exact ((unhid BA).drewN k).drewN k2 | (rw [World.drewN_drewN]; exact ((unhid BA).drewN _)) | exact ((unhid BA).drewN _)⟩
    · refine (unhid (WN (by omega)) _).mono ?_
      rintro e w3 ⟨Ay, cy, rfl, hoy, hby⟩
      have HB := hid ((unhid HB1).trans (Below.mono hby (unhid HB1).size)); clear hoy hby
      go_wp2_with fail
      refine (unhid P2 _ (((unhid R2).below (unhid HB)).more (unhid HB).size)).mono ?_
      rintro e wp ⟨Ap, cp, rfl, hop, hbp⟩
      have OP := hid hop; have BP := hid hbp; clear hop hbp
      go_wp2_with fail
      refine (unhid P3 _ ((((unhid R3).below (unhid HB)).more (unhid HB).size).below (unhid BP) |>.more (unhid BP).size)).mono ?_
      rintro e wq ⟨Aq, cq, rfl, hoq, hbq⟩
      have OQ := hid hoq; have BQ := hid hbq; clear hoq hbq
      have BA := hid (((unhid HB).trans ((unhid BP).mono (unhid HB).size)).trans ((unhid BQ).mono (Nat.le_trans (unhid HB).size (unhid BP).size)))
      go_wp2_with fail
      refine (unhid SB _ (((unhid R2).below (unhid BA)).more (unhid BA).size) (((unhid R3).below (unhid BA)).more (unhid BA).size)).mono ?_
      rintro e w' ⟨k, rfl, rfl⟩
      go_wp2_with fail
      refine (unhid PK2 _ Ap cp Aq cq (Row.drewN (((Row.of_own (unhid OP)).below (unhid BQ)).more (unhid BQ).size) k) (Row.drewN (Row.of_own (unhid OQ)) k) (unhid OQ).le.1).mono ?_
      rintro e w' ⟨k2, rfl, rfl⟩
      go_wp2_with fail
      go_ret
      exact ⟨by simp, by first | exact ((unhid BA).drewN k).drewN k2 | (rw [World.drewN_drewN]; exact ((unhid BA).drewN _)) | exact ((unhid BA).drewN _)⟩
  · refine (unhid (WM (by omega)) _).mono ?_
    rintro e w2 ⟨Ax, cx, rfl, hox, hbx⟩
    have HB2 := hid ((unhid HB1).trans (Below.mono hbx (unhid HB1).size)); have OX := hid hox; clear hox hbx
    go_wp2_with fail
    by_cases hn : a1 < 0
    · refine (write_err a1 _ hn).mono ?_
      rintro e w' ⟨rfl, rfl⟩
      have HB := HB2
      go_wp2_with fail
      refine (unhid P2 _ (((unhid R2).below (unhid HB)).more (unhid HB).size)).mono ?_
      rintro e wp ⟨Ap, cp, rfl, hop, hbp⟩
      have OP := hid hop; have BP := hid hbp; clear hop hbp
      go_wp2_with fail
      refine (unhid P3 _ ((((unhid R3).below (unhid HB)).more (unhid HB).size).below (unhid BP) |>.more (unhid BP).size)).mono ?_
      rintro e wq ⟨Aq, cq, rfl, hoq, hbq⟩
      have OQ := hid hoq; have BQ := hid hbq; clear hoq hbq
      have BA := hid (((unhid HB).trans ((unhid BP).mono (unhid HB).size)).trans ((unhid BQ).mono (Nat.le_trans (unhid HB).size (unhid BP).size)))
      go_wp2_with fail
      refine (unhid SB _ (((unhid R2).below (unhid BA)).more (unhid BA).size) (((unhid R3).below (unhid BA)).more (unhid BA).size)).mono ?_
      rintro e w' ⟨k, rfl, rfl⟩
      go_wp2_with fail
      refine (unhid PK2 _ Ap cp Aq cq (Row.drewN (((Row.of_own (unhid OP)).below (unhid BQ)).more (unhid BQ).size) k) (Row.drewN (Row.of_own (unhid OQ)) k) (unhid OQ).le.1).mono ?_
      rintro e w' ⟨k2, rfl, rfl⟩
      go_wp2_with fail
      go_ret
      exact ⟨by simp, by first | exact ((unhid BA).drewN k).drewN k2 | (rw [World.drewN_drewN]; exact ((unhid BA).drewN _)) | exact ((unhid BA).drewN _)⟩
    · refine (unhid (WN (by omega)) _).mono ?_
      rintro e w3 ⟨Ay, cy, rfl, hoy, hby⟩
      have HB3 := hid ((unhid HB2).trans (Below.mono hby (unhid HB2).size)); have OY := hid hoy
      have RX := hid (((Row.of_own OX.out).below hby).more hby.size); clear hoy hby
      have hm0 : 0 ≤ a0 := by omega
      have hn0 : 0 ≤ a1 := by omega
      by_cases hlen : x.length ≤ y.length
      · by_cases he : a0 = a1
        · go_wp2_with fail
          refine (unhid SXt _ Ax cx Ay cy hm0 hn0 he (unhid RX) (Row.of_own OY.out) (unhid OY).le.1).mono ?_
          rintro e w' ⟨kk, rfl, rfl⟩
          have HB := hid ((unhid HB3).drewN kk)
          have hnl : ¬ a0 < a1 := by omega
          have heb : (a0 == a1) = true := by simpa using he
          go_wp2_with fail
          refine (unhid P2 _ (((unhid R2).below (unhid HB)).more (unhid HB).size)).mono ?_
          rintro e wp ⟨Ap, cp, rfl, hop, hbp⟩
          have OP := hid hop; have BP := hid hbp; clear hop hbp
          go_wp2_with fail
          refine (unhid P3 _ ((((unhid R3).below (unhid HB)).more (unhid HB).size).below (unhid BP) |>.more (unhid BP).size)).mono ?_
          rintro e wq ⟨Aq, cq, rfl, hoq, hbq⟩
          have OQ := hid hoq; have BQ := hid hbq; clear hoq hbq
          have BA := hid (((unhid HB).trans ((unhid BP).mono (unhid HB).size)).trans ((unhid BQ).mono (Nat.le_trans (unhid HB).size (unhid BP).size)))
          go_wp2_with fail
          refine (unhid SB _ (((unhid R2).below (unhid BA)).more (unhid BA).size) (((unhid R3).below (unhid BA)).more (unhid BA).size)).mono ?_
          rintro e w' ⟨k, rfl, rfl⟩
          go_wp2_with fail
          refine (unhid PK2 _ Ap cp Aq cq (Row.drewN (((Row.of_own (unhid OP)).below (unhid BQ)).more (unhid BQ).size) k) (Row.drewN (Row.of_own (unhid OQ)) k) (unhid OQ).le.1).mono ?_
          rintro e w' ⟨k2, rfl, rfl⟩
          go_wp2_with fail
          go_ret
          exact ⟨by simp, by first | exact ((unhid BA).drewN k).drewN k2 | (rw [World.drewN_drewN]; exact ((unhid BA).drewN _)) | exact ((unhid BA).drewN _)⟩
        · have heb : (a0 == a1) = false := by simpa using he
          have hnl2 : ¬ y.length < x.length := by omega
          by_cases hlt : a0 < a1
          · go_wp2_with fail
            refine (unhid SXf _ Ax cx Ay cy hm0 hn0 he (unhid RX) (Row.of_own OY.out) (unhid OY).le.1).mono ?_
            rintro e w' ⟨kk, rfl, rfl⟩
            have HB := hid ((unhid HB3).drewN kk)
            go_wp2_with fail
            refine (unhid P2 _ (((unhid R2).below (unhid HB)).more (unhid HB).size)).mono ?_
            rintro e wp ⟨Ap, cp, rfl, hop, hbp⟩
            have OP := hid hop; have BP := hid hbp; clear hop hbp
            go_wp2_with fail
            refine (unhid P3 _ ((((unhid R3).below (unhid HB)).more (unhid HB).size).below (unhid BP) |>.more (unhid BP).size)).mono ?_
            rintro e wq ⟨Aq, cq, rfl, hoq, hbq⟩
            have OQ := hid hoq; have BQ := hid hbq; clear hoq hbq
            have BA := hid (((unhid HB).trans ((unhid BP).mono (unhid HB).size)).trans ((unhid BQ).mono (Nat.le_trans (unhid HB).size (unhid BP).size)))
            go_wp2_with fail
            refine (unhid SB _ (((unhid R2).below (unhid BA)).more (unhid BA).size) (((unhid R3).below (unhid BA)).more (unhid BA).size)).mono ?_
            rintro e w' ⟨k, rfl, rfl⟩
            go_wp2_with fail
            refine (unhid PK2 _ Ap cp Aq cq (Row.drewN (((Row.of_own (unhid OP)).below (unhid BQ)).more (unhid BQ).size) k) (Row.drewN (Row.of_own (unhid OQ)) k) (unhid OQ).le.1).mono ?_
            rintro e w' ⟨k2, rfl, rfl⟩
            go_wp2_with fail
            go_ret
            exact ⟨by simp, by first | exact ((unhid BA).drewN k).drewN k2 | (rw [World.drewN_drewN]; exact ((unhid BA).drewN _)) | exact ((unhid BA).drewN _)⟩
          · go_wp2_with fail
            refine (unhid SXf _ Ax cx Ay cy hm0 hn0 he (unhid RX) (Row.of_own OY.out) (unhid OY).le.1).mono ?_
            rintro e w' ⟨kk, rfl, rfl⟩
            have HB := hid ((unhid HB3).drewN kk)
            go_wp2_with fail
            refine (unhid P2 _ (((unhid R2).below (unhid HB)).more (unhid HB).size)).mono ?_
            rintro e wp ⟨Ap, cp, rfl, hop, hbp⟩
            have OP := hid hop; have BP := hid hbp; clear hop hbp
            go_wp2_with fail
            refine (unhid P3 _ ((((unhid R3).below (unhid HB)).more (unhid HB).size).below (unhid BP) |>.more (unhid BP).size)).mono ?_
            rintro e wq ⟨Aq, cq, rfl, hoq, hbq⟩
            have OQ := hid hoq; have BQ := hid hbq; clear hoq hbq
            have BA := hid (((unhid HB).trans ((unhid BP).mono (unhid HB).size)).trans ((unhid BQ).mono (Nat.le_trans (unhid HB).size (unhid BP).size)))
            go_wp2_with fail
            refine (unhid SB _ (((unhid R2).below (unhid BA)).more (unhid BA).size) (((unhid R3).below (unhid BA)).more (unhid BA).size)).mono ?_
            rintro e w' ⟨k, rfl, rfl⟩
            go_wp2_with fail
            refine (unhid PK2 _ Ap cp Aq cq (Row.drewN (((Row.of_own (unhid OP)).below (unhid BQ)).more (unhid BQ).size) k) (Row.drewN (Row.of_own (unhid OQ)) k) (unhid OQ).le.1).mono ?_
            rintro e w' ⟨k2, rfl, rfl⟩
            go_wp2_with fail
            go_ret
            exact ⟨by simp, by first | exact ((unhid BA).drewN k).drewN k2 | (rw [World.drewN_drewN]; exact ((unhid BA).drewN _)) | exact ((unhid BA).drewN _)⟩
      · have hgt : ¬ a0 < a1 := fun h => hlen (LO.out (by omega))
        have he : ¬ a0 = a1 := fun h => hlen (LO.out (by omega))
        have heb : (a0 == a1) = false := by simpa using he
        have HB := HB3
        go_wp2_with fail
        refine (unhid P2 _ (((unhid R2).below (unhid HB)).more (unhid HB).size)).mono ?_
        rintro e wp ⟨Ap, cp, rfl, hop, hbp⟩
        have OP := hid hop; have BP := hid hbp; clear hop hbp
        go_wp2_with fail
        refine (unhid P3 _ ((((unhid R3).below (unhid HB)).more (unhid HB).size).below (unhid BP) |>.more (unhid BP).size)).mono ?_
        rintro e wq ⟨Aq, cq, rfl, hoq, hbq⟩
        have OQ := hid hoq; have BQ := hid hbq; clear hoq hbq
        have BA := hid (((unhid HB).trans ((unhid BP).mono (unhid HB).size)).trans ((unhid BQ).mono (Nat.le_trans (unhid HB).size (unhid BP).size)))
        go_wp2_with fail
        refine (unhid SB _ (((unhid R2).below (unhid BA)).more (unhid BA).size) (((unhid R3).below (unhid BA)).more (unhid BA).size)).mono ?_
        rintro e w' ⟨k, rfl, rfl⟩
        go_wp2_with fail
        refine (unhid PK2 _ Ap cp Aq cq (Row.drewN (((Row.of_own (unhid OP)).below (unhid BQ)).more (unhid BQ).size) k) (Row.drewN (Row.of_own (unhid OQ)) k) (unhid OQ).le.1).mono ?_
        rintro e w' ⟨k2, rfl, rfl⟩
        go_wp2_with fail
        go_ret
        exact ⟨by simp, by first | exact ((unhid BA).drewN k).drewN k2 | (rw [World.drewN_drewN]; exact ((unhid BA).drewN _)) | exact ((unhid BA).drewN _)⟩
end Go.Proofs.Ytopddinpmiefjaa

/- The walks of the reference's BidText and Counts1. -/
import Derived.Test.YtlaoijnlemgdfaaDoorBidAwardW
import Derived.Test.YtlaoijnlemgdfaaDoorPutW
import Derived.Test.YtlaoijnlemgdfaaDoorVowLawW
namespace Go.Proofs.YtlaoijnlemgdfaaDoor
set_option linter.unusedVariables false
open Go.RowKit Go.Mny
/-- append as one operation -/
theorem app_wp {P : Program} {t e s b : Nat} (E : Elt P t e s b) {w : World} {o : Oper} {a : Act} {K : Act → World → Prop} {Q : Exit → Act → World → Prop}
    (x y : Operand) (ho : o.op = .call { callee := .builtin .append, args := #[x, y], argTypes := #[t, t] })
    {B : Nat} {A : Option Addr} {n c : Nat} {xs : List Value} (hx : a.eval x = .slice A n c) (hown : Own w B e s A n c xs)
    {D : Nat} {A' : Option Addr} {m c' : Nat} {news : List Value} (hy : a.eval y = .slice A' m c') (hrow : Row w D s A' m news) (h1 : ∀ u ∈ news, u.oneCell' = true)
    (hm : n + m ≤ maxLen) (hroom : (n + m) * b ≤ 140737488355328) (hB : B ≤ w.heap.size)
    (k : ∀ A2 c2 w2, Own w2 B e s A2 (n + m) c2 (xs ++ news) → w.grownBy w2 (at_ A) → (at_ A2 = at_ A ∨ at_ A2 = some w.heap.size) → K (a.put o.dst (.slice A2 (n + m) c2)) w2) : o.wp P a w K Q := by
  obtain ⟨A2, c2, w2, hr, g1, g2, g3⟩ := run_app (P := P) (ty := o.type) E hown (c' := c') hrow h1 hm hroom hB
  unfold Oper.wp execOp
  simp only [ho, resolve, invoke, builtin, Sem.run_bind, Sem.run_pure, Result.andThen_ok, List.map_toArray, List.map_cons, List.map_nil, hx, hy, hr]
  exact k A2 c2 w2 g1 g2 g3
theorem bytesOf_big (x s : Nat) : (Siz.bytesOf s (x : Int)).map (Value.int .u8) = bytes (bigN x s) := by
  unfold Siz.bytesOf bytes up bigN lst bigAt
  rw [List.map_map, List.map_map, List.map_map]
  refine List.map_congr_left fun q _ => ?_
  simp only [Function.comp]
  congr 1
theorem put_neg (n : Int) (s : Nat) (w : World) (h0 : n < 0) (hs1 : 1 ≤ s) (hs : s ≤ 8) :
    Calls Tryd.prog 30 #[.int .i64 n, .int .i64 (s : Int)] w fun e w' => e = .returned (.tuple #[.slice none 0 0, .bool false]) ∧ w = w' := by
  have t1 : ¬ (s : Int) < 1 := by omega
  have t2 : ¬ (8 : Int) < (s : Int) := by omega
  go_enter Tryd.func30, Tryd.ntmps30
  go_wp2_with fail
  go_ret2
  exact ⟨rfl, rfl⟩
/-- Put, whatever the number -/
theorem put_all (n : Int) (s : Nat) (w : World) (hn : (Lit.int .i64 n).wf = true) (hs1 : 1 ≤ s) (hs : s ≤ 8) (r : Bool) (hr : r = decide (0 ≤ n ∧ n / 2 ^ (8 * s) = 0)) :
    Calls Tryd.prog 30 #[.int .i64 n, .int .i64 (s : Int)] w fun e w' => (∃ A m c, e = .returned (.tuple #[.slice A m c, .bool r])) ∧ Below w.heap.size w w' := by
  subst hr
  have hb := bounds_i64 hn
  by_cases h0 : n < 0
  · refine (put_neg n s w h0 hs1 hs).mono ?_
    rintro e w' ⟨rfl, rfl⟩
    exact ⟨⟨none, 0, 0, by rw [decide_eq_false (fun h => by omega)]⟩, Below.refl _ _⟩
  · refine (put_any n s w (by omega) (by omega) hs1 hs).mono ?_
    rintro e w' ⟨g, rfl, _, hb⟩
    refine ⟨⟨_, _, _, by rw [show decide (0 ≤ n ∧ n / 2 ^ (8 * s) = 0) = decide (n / 2 ^ (8 * s) = 0) from by
      have h1 : 0 ≤ n := by omega
      simp [h1]]⟩, hb⟩
def TextP (b : Bd) (w : World) (e : Ending) (w' : World) : Prop :=
  ∃ A c, e = .returned (.tuple #[.slice A 45 c, .bool true]) ∧ Row w' w'.heap.size 1 A 45 (bytes (vowText b.salt (bigN b.who.toNat 4 ++ bigN b.amt.toNat 8))) ∧ Below w.heap.size w w'
set_option maxHeartbeats 2000000 in
set_option maxRecDepth 100000 in
theorem text_yes (b : Bd) (w : World) (hk : BdOk b) (hv : vowOk b) : Calls Tryd.prog 27 #[.agg (bc b).toArray] w (TextP b w) := by
  obtain ⟨k1, k2, k3, k4⟩ := hk
  obtain ⟨v1, v2, v3⟩ := hv
  have a4 := bounds_i64 k4
  obtain ⟨x, hx⟩ := Int.eq_ofNat_of_zero_le v1
  obtain ⟨y, hy⟩ := Int.eq_ofNat_of_zero_le v3
  have P1 := hid fun W : World => put_any (x : Int) 4 W (by omega) (by omega) (by decide) (by decide)
  have P2 := hid fun W : World => put_any (y : Int) 8 W (by omega) (by omega) (by decide) (by decide)
  have hvt : TextP b w = fun e w' => ∃ A c, e = .returned (.tuple #[.slice A 45 c, .bool true]) ∧ Row w' w'.heap.size 1 A 45 (bytes (vowText b.salt (bigN x 4 ++ bigN y 8))) ∧ Below w.heap.size w w' := by unfold TextP; rw [hx, hy]; rfl
  rw [hvt]
  have HS := hid k1
  have HSL := hid (show (up b.salt).length = 32 by rw [up_len]; exact k1)
  have HXE := hid hx; have HYE := hid hy
  have D1 := hid (show decide ((x : Int) / 2 ^ (8 * 4) = 0) = true from decide_eq_true (by omega))
  have D2 := hid (show decide ((y : Int) / 2 ^ (8 * 8) = 0) = true from decide_eq_true (by omega))
  clear k1 k2 k3 k4 hvt v1 v2 v3 a4 hx hy
  go_enter Tryd.func27, Tryd.ntmps27
  go_wp2_with (with_reducible refine halt_op (some 1) (.box _ _) (fun K hK => ?_))
  refine go_on hK ?_; clear hK
  refine box_row (cs := (bc b).toArray) rfl (.tmp 0) rfl rfl ?_
  rintro g1 w1 hg1 s1 b1 e1
  have hw1 : w.heap.size ≤ g1 := by omega
  have h11 : g1 < w1.heap.size := by omega
  have B1 := hid b1; have E1 := hid (e1.mono hw1)
  have c0 : w1.cell? ⟨g1, 0, none⟩ = some (.int .i64 (x : Int)) := by rw [Blk.cell_of b1, ← HXE.out]; rfl
  have hww1 : w.heap.size ≤ w1.heap.size := by omega
  clear b1 e1 hg1 s1
  go_wp2_with fail
  refine (P1.out _).mono ?_
  rintro e w2 ⟨gA, rfl, oA, hb2⟩
  rw [D1.out]
  rw [bytesOf_big] at oA
  have c1 : w2.cell? ⟨g1, 1, none⟩ = some (.int .i64 (y : Int)) := by rw [Blk.cell_of ((unhid B1).below hb2 h11), ← HYE.out]; rfl
  have OA2 := hid oA
  have E2 := hid hb2
  clear oA hb2 c0
  go_wp2_with fail
  refine (P2.out _).mono ?_
  rintro e w3 ⟨gB, rfl, oB, hb3⟩
  rw [D2.out]
  rw [bytesOf_big] at oB
  have OA := hid ((unhid OA2).below hb3 (Nat.le_refl _)); have OB := hid oB
  have hE13 : Below w1.heap.size w1 w3 := (unhid E2).trans (hb3.mono (unhid E2).size)
  have E3 := hid ((unhid E1).trans (hE13.mono hww1))
  have hw13 := hE13.size
  have CR : Hid (∀ W, Below w1.heap.size w3 W → W.rangeAt g1 2 ((up b.salt).map (Value.int .u8))) := hid fun W hW => Blk.part ((unhid B1).below (hE13.trans hW) h11)
  clear oB hb3 c1 hE13 OA2
  go_wp2_with fail
  refine wp_region_held_drew (S := fun w' => Below w1.heap.size w3 w') (by kernel_rfl) ((Below.refl _ _).drew) (fun hS => ?_)
  refine wpAnyH_take (i := 0) (v := .pointer (some ⟨g1, 2, none⟩)) rfl (by kernel_rfl) (by kernel_rfl) (by kernel_rfl) (fun _ _ _ h => h) (yields_of rfl (fun w => by go_simp)) hS ?_
  simp only [Act.put, List.setIfInBounds_toArray]
  refine wpAnyH_take (i := 1) (v := .agg (cellsOf .u8 (up b.salt))) rfl (by kernel_rfl) (by kernel_rfl) (by kernel_rfl) (fun _ _ _ h => h) (yields_load digT rfl (.tmp 26) rfl rfl HSL.out (fun w h => CR.out w h)) hS ?_
  simp only [Act.put]
  refine wpAnyH_take (i := 2) (v := .slice (some ⟨gA, 0, none⟩) 4 4) rfl (by kernel_rfl) (by kernel_rfl) (by kernel_rfl) (fun _ _ _ h => h) (yields_of rfl (fun w => by go_simp)) hS ?_
  simp only [Act.put]
  refine wpAnyH_take (i := 3) (v := .slice (some ⟨gB, 0, none⟩) 8 8) rfl (by kernel_rfl) (by kernel_rfl) (by kernel_rfl) (fun _ _ _ h => h) (yields_of rfl (fun w => by go_simp)) hS ?_
  simp only [Act.put]
  refine wpAnyH_ready (rs := [4]) (by kernel_rfl) (by simp) ?_
  refine AllReadyH.cons (o := _) rfl (fun K hK => ?_) AllReadyH.nil
  rw [if_pos (by rfl)]
  refine app_wp bytesE (.tmp 28) (.tmp 29) rfl rfl (unhid OA).drew rfl (Row.of_own (unhid OB).drew) (bytes_one _) (by decide) (by decide) hw13 ?_
  intro A4 c4 w4 o4 g4 l4
  have hz4 := g4.size
  have hb4 : Below w1.heap.size w3 w4 := ((Below.refl _ _).drew).grown g4 hw13 (fun q hq => ((unhid OA).from_ q hq).1)
  rw [← bytes_append] at o4
  refine hK.out _ _ hb4 (fun _ => ?_)
  refine wpAnyH_ready (rs := [5]) (by kernel_rfl) (by simp) ?_
  refine AllReadyH.cons (o := _) rfl (fun K hK => ?_) AllReadyH.nil
  go_simp
  refine (vowText_any b.salt (bigN x 4 ++ bigN y 8) A4 12 c4 w4.heap.size w4 HS.out (Row.of_own o4) (Nat.le_refl _) (by decide)).mono ?_
  rintro e w5 ⟨A5, c5, rfl, o5, hb5⟩
  have hb6 : Below w1.heap.size w3 w5 := hb4.trans (hb5.mono (Nat.le_trans hw13 hb4.size))
  go_wp2_with fail
  refine hK.out _ _ hb6 (fun _ => ?_)
  refine wpAnyH_ready (rs := [6]) (by kernel_rfl) (by simp) ?_
  refine AllReadyH.cons (o := _) rfl (fun K hK => ?_) AllReadyH.nil
  go_simp
  refine hK.out _ _ hb6 (fun _ => ?_)
  refine wpAnyH_ready (rs := [7]) (by kernel_rfl) (by simp) ?_
  refine AllReadyH.cons (o := _) rfl (fun K hK => ?_) AllReadyH.nil
  go_simp
  refine hK.out _ _ hb6 (fun _ => ?_)
  refine wpAnyH_done (by kernel_rfl) ?_ _
  have O5 := hid o5; have E5 := hid ((unhid E3).trans (hb6.mono hww1))
  clear hS o4 o5 g4 l4 hb4 hb5 hb6 hz4
  go_wp2_with fail
  go_ret2
  exact ⟨A5, c5, rfl, Row.of_own (unhid O5), unhid E5⟩
set_option maxHeartbeats 1000000 in
set_option maxRecDepth 100000 in
theorem text_no (b : Bd) (w : World) (hk : BdOk b) (hv : ¬ vowOk b) : Calls Tryd.prog 27 #[.agg (bc b).toArray] w fun e w' => e = .returned (.tuple #[.slice none 0 0, .bool false]) ∧ Below w.heap.size w w' := by
  obtain ⟨k1, k2, k3, k4⟩ := hk
  have a3 := bounds_i64 k3
  have a4 := bounds_i64 k4
  obtain ⟨r1, hr1⟩ : ∃ r, r = decide (0 ≤ b.who ∧ b.who / 2 ^ (8 * 4) = 0) := ⟨_, rfl⟩
  obtain ⟨r2, hr2⟩ : ∃ r, r = decide (0 ≤ b.amt ∧ b.amt / 2 ^ (8 * 8) = 0) := ⟨_, rfl⟩
  have hrr : r1 = false ∨ (r1 = true ∧ r2 = false) := by
    cases h1 : r1 with
    | false => exact .inl rfl
    | true =>
      refine .inr ⟨rfl, ?_⟩
      rw [h1] at hr1
      have g1 := of_decide_eq_true hr1.symm
      rw [hr2]
      refine decide_eq_false fun g2 => hv ⟨g1.1, ?_, g2.1⟩
      omega
  have P1 := hid fun W : World => put_all b.who 4 W k3 (by decide) (by decide) r1 hr1
  have P2 := hid fun W : World => put_all b.amt 8 W k4 (by decide) (by decide) r2 hr2
  obtain ⟨x, hx⟩ : ∃ x, b.who = x := ⟨_, rfl⟩
  obtain ⟨y, hy⟩ : ∃ y, b.amt = y := ⟨_, rfl⟩
  rw [hx] at P1
  rw [hy] at P2
  have HXE := hid hx; have HYE := hid hy
  clear k1 k2 k3 k4 hv a3 a4 hr1 hr2 hx hy
  go_enter Tryd.func27, Tryd.ntmps27
  go_wp2_with (with_reducible refine halt_op (some 1) (.box _ _) (fun K hK => ?_))
  refine go_on hK ?_; clear hK
  refine box_row (cs := (bc b).toArray) rfl (.tmp 0) rfl rfl ?_
  rintro g1 w1 hg1 s1 b1 e1
  have hw1 : w.heap.size ≤ g1 := by omega
  have h11 : g1 < w1.heap.size := by omega
  have B1 := hid b1; have E1 := hid (e1.mono hw1)
  have c0 : w1.cell? ⟨g1, 0, none⟩ = some (.int .i64 x) := by rw [Blk.cell_of b1, ← HXE.out]; rfl
  have hww1 : w.heap.size ≤ w1.heap.size := by omega
  clear b1 e1 hg1 s1
  rcases hrr with h | ⟨h, h'⟩
  · subst h
    go_wp2_with fail
    refine (P1.out _).mono ?_
    rintro e w2 ⟨⟨A, m, c, rfl⟩, hb2⟩
    have c1 : w2.cell? ⟨g1, 1, none⟩ = some (.int .i64 y) := by rw [Blk.cell_of ((unhid B1).below hb2 h11), ← HYE.out]; rfl
    have E2 := hid ((unhid E1).trans (hb2.mono hww1))
    clear hb2 c0
    go_wp2_with fail
    refine (P2.out _).mono ?_
    rintro e w3 ⟨⟨A', m', c', rfl⟩, hb3⟩
    have E3 := hid ((unhid E2).trans (hb3.mono (unhid E2).size))
    clear hb3 c1
    go_wp2_with fail
    go_ret2
    exact ⟨rfl, unhid E3⟩
  · subst h h'
    go_wp2_with fail
    refine (P1.out _).mono ?_
    rintro e w2 ⟨⟨A, m, c, rfl⟩, hb2⟩
    have c1 : w2.cell? ⟨g1, 1, none⟩ = some (.int .i64 y) := by rw [Blk.cell_of ((unhid B1).below hb2 h11), ← HYE.out]; rfl
    have E2 := hid ((unhid E1).trans (hb2.mono hww1))
    clear hb2 c0
    go_wp2_with fail
    refine (P2.out _).mono ?_
    rintro e w3 ⟨⟨A', m', c', rfl⟩, hb3⟩
    have E3 := hid ((unhid E2).trans (hb3.mono (unhid E2).size))
    clear hb3 c1
    go_wp2_with fail
    go_ret2
    exact ⟨rfl, unhid E3⟩
end Go.Proofs.YtlaoijnlemgdfaaDoor

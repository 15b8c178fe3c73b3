/- The closures of bid.Award; the sort of bids. -/
import Derived.Test.YtlaoijnlemgdfaaDoorSortW
import Derived.Test.YtlaoijnlemgdfaaDoorBidW
import Derived.Shelf.SlSortCmp.NoneTotal
namespace Go.Proofs.YtlaoijnlemgdfaaDoor
set_option linter.unusedVariables false
open Go.RowKit Go.Mny Go.Sort
def cmpN (a b : Int) : Int := if a < b then -1 else if b < a then 1 else 0
def orN (a b : Int) : Int := if a ≠ 0 then a else b
theorem compare_any (a b : Int) (w : World) : Calls Tryd.prog 44 #[.int .i64 a, .int .i64 b] w fun e w' => e = .returned (.int .i64 (cmpN a b)) ∧ w = w' := by
  by_cases h1 : a < b
  · have hc : cmpN a b = -1 := by unfold cmpN; rw [if_pos h1]
    rw [hc]
    clear hc
    go_enter Tryd.func44, Tryd.ntmps44
    go_wp2
    go_ret
    exact ⟨rfl, rfl⟩
  by_cases h2 : b < a
  · have hc : cmpN a b = 1 := by unfold cmpN; rw [if_neg h1, if_pos h2]
    rw [hc]
    clear hc
    go_enter Tryd.func44, Tryd.ntmps44
    go_wp2
    go_ret
    exact ⟨rfl, rfl⟩
  · have hc : cmpN a b = 0 := by unfold cmpN; rw [if_neg h1, if_neg h2]
    rw [hc]
    clear hc
    go_enter Tryd.func44, Tryd.ntmps44
    go_wp2
    go_ret
    exact ⟨rfl, rfl⟩
theorem or_any (g : Nat) (a b : Int) (w : World) (h0 : w.cell? ⟨g, 0, none⟩ = some (.int .i64 a)) (h1 : w.cell? ⟨g, 1, none⟩ = some (.int .i64 b)) :
    Calls Tryd.prog 43 #[.slice (some ⟨g, 0, none⟩) 2 2] w fun e w' => e = .returned (.int .i64 (orN a b)) ∧ w = w' := by
  have H0 := hid h0; have H1 := hid h1
  clear h0 h1
  go_enter Tryd.func43, Tryd.ntmps43
  go_wp2_with fail
  go_loop [8] (fun v8 => ∃ i : Nat, i ≤ 2 ∧ v8 = .int .i64 i ∧ Hid (1 ≤ i → a = 0) ∧ Hid (2 ≤ i → b = 0)) (fun v8 => 2 - (intOf v8).toNat)
  case atStart => exact ⟨0, by omega, rfl, hid (fun h => by omega), hid (fun h => by omega)⟩
  case round =>
    obtain ⟨i, hi, rfl, HA, HB⟩ := hrel
    by_cases h0 : i = 0
    · subst h0
      have c0 := H0.out
      by_cases ha : a = 0
      · have t1 : (a != 0) = false := by simp; exact ha
        have HA0 := hid ha
        clear ha
        go_wp2_with fail
        go_round
        case rel => exact ⟨1, by omega, rfl, hid (fun _ => HA0.out), hid (fun h => by omega)⟩
        case measure => simp [intOf]
      · have t1 : (a != 0) = true := by simp; exact ha
        have hor : orN a b = a := by unfold orN; rw [if_pos ha]
        have HOR := hid hor
        clear ha hor
        go_wp2_with fail
        go_ret
        exact ⟨by rw [HOR.out]; rfl, rfl⟩
    by_cases h1 : i = 1
    · subst h1
      have c1 := H1.out
      have ha := HA.out (Nat.le_refl _)
      have hor : orN a b = b := by unfold orN; rw [if_neg (by rw [ha]; decide)]
      have HOR := hid hor
      clear ha hor
      by_cases hb : b = 0
      · have t1 : (b != 0) = false := by simp; exact hb
        have HB0 := hid hb
        clear hb
        go_wp2_with fail
        go_round
        case rel => exact ⟨2, by omega, rfl, hid (fun _ => HA.out (Nat.le_refl _)), hid (fun _ => HB0.out)⟩
        case measure => simp [intOf]
      · have t1 : (b != 0) = true := by simp; exact hb
        clear hb
        go_wp2_with fail
        go_ret
        exact ⟨by rw [HOR.out]; rfl, rfl⟩
    · have h2 : i = 2 := by omega
      subst h2
      have hor : orN a b = 0 := by unfold orN; rw [HA.out (by omega), HB.out (by omega)]; rfl
      have HOR := hid hor
      clear hor
      go_wp2_with fail
      go_ret
      exact ⟨by rw [HOR.out]; rfl, rfl⟩
theorem box_to {P : Program} {t : Nat} {w : World} {ops : Array Oper} {rest : List Oper} {o : Oper} {a : Act} {Q : Exit → Act → World → Prop} (hw : Region.wanted o (yielded ops a.tmps) = true)
    (x : Operand) (ho : o.op = .box t x) {cs : Array Value} (hx : a.eval x = .agg cs) (h : wpList P ops Q rest (a.put o.dst (.pointer (some ⟨w.heap.size, 0, none⟩))) (w.alloc (.cells cs t))) :
    wpList P ops Q (o :: rest) a w := by
  refine op_step hw fun K hK => ?_
  have hr : (Instr.box t (.agg cs)).run P w = .ok (.pointer (some ⟨w.heap.size, 0, none⟩)) (w.alloc (.cells cs t)) := rfl
  unfold Oper.wp execOp
  simp only [ho, hx, Sem.run_bind, Sem.run_pure, Result.andThen_ok, hr]
  exact hK _ _ h
theorem drew_grow' (w : World) (os : Array Obj) : (grow w os).drew = grow w.drew os := rfl
theorem grow3 (W : World) (o1 o2 o3 : Obj) : (((W.alloc o1).alloc o2).alloc o3).drew = grow (W.drewN 1) #[o1, o2, o3] := by
  rw [alloc_eq_grow W, alloc_eq_grow (grow W _), grow_grow, alloc_eq_grow, grow_grow, drew_grow']; rfl
set_option maxHeartbeats 1000000 in
set_option maxRecDepth 100000 in
theorem cmp_any (a b c d : Int) (r s : List Value) (W : World) :
    Calls Tryd.prog 42 #[.agg (.int .i64 a :: .int .i64 b :: r).toArray, .agg (.int .i64 c :: .int .i64 d :: s).toArray] W fun e w' => e = .returned (.int .i64 (orN (cmpN d b) (cmpN a c))) ∧ ∃ q os', w' = grow (W.drewN q) os' := by
  go_enter Tryd.func42, Tryd.ntmps42
  go_wp2_with (with_reducible refine halt_op (some 2) (.box _ _) (fun K hK => ?_))
  refine go_on hK ?_; clear hK
  refine box_to (cs := (.int .i64 a :: .int .i64 b :: r).toArray) rfl (.tmp 0) rfl rfl ?_
  go_wp2_with (with_reducible refine halt_op (some 3) (.box _ _) (fun K hK => ?_))
  refine go_on hK ?_; clear hK
  refine box_to (cs := (.int .i64 c :: .int .i64 d :: s).toArray) rfl (.tmp 1) rfl rfl ?_
  have hz1 : (W.alloc (.cells (.int .i64 a :: .int .i64 b :: r).toArray 62)).heap.size = W.heap.size + 1 := by simp
  have hz2 : ((W.alloc (.cells (.int .i64 a :: .int .i64 b :: r).toArray 62)).alloc (.cells (.int .i64 c :: .int .i64 d :: s).toArray 62)).heap.size = W.heap.size + 2 := by simp
  rw [hz1]
  have B1 := (Blk.new W 62 (.int .i64 a :: .int .i64 b :: r).toArray).alloc (.cells (.int .i64 c :: .int .i64 d :: s).toArray 62)
  have B2 := Blk.new (W.alloc (.cells (.int .i64 a :: .int .i64 b :: r).toArray 62)) 62 (.int .i64 c :: .int .i64 d :: s).toArray
  rw [hz1] at B2
  have hcS : ∀ w', Below (W.heap.size + 2) ((W.alloc (.cells (.int .i64 a :: .int .i64 b :: r).toArray 62)).alloc (.cells (.int .i64 c :: .int .i64 d :: s).toArray 62)) w' → ((w'.cell? ⟨W.heap.size, 0, none⟩ = some (.int .i64 a) ∧ w'.cell? ⟨W.heap.size, 1, none⟩ = some (.int .i64 b)) ∧ (w'.cell? ⟨W.heap.size + 1, 0, none⟩ = some (.int .i64 c) ∧ w'.cell? ⟨W.heap.size + 1, 1, none⟩ = some (.int .i64 d))) := fun w' hb => by
    have b1 := B1.below hb (by omega)
    have b2 := B2.below hb (by omega)
    refine ⟨⟨?_, ?_⟩, ?_, ?_⟩
    · rw [Blk.cell_of b1]; rfl
    · rw [Blk.cell_of b1]; rfl
    · rw [Blk.cell_of b2]; rfl
    · rw [Blk.cell_of b2]; rfl
  have hc0 := hcS _ (Below.refl (W.heap.size + 2) _).drew
  have hc1 := hcS _ ((Below.refl (W.heap.size + 2) ((W.alloc (.cells (.int .i64 a :: .int .i64 b :: r).toArray 62)).alloc (.cells (.int .i64 c :: .int .i64 d :: s).toArray 62))).drew.alloc (by show W.heap.size + 2 ≤ _; rw [← hz2]; exact Nat.le_refl _) (.cells #[.int .i64 (cmpN d b), .int .i64 (cmpN a c)] 3))
  have hq : (((W.alloc (.cells (.int .i64 a :: .int .i64 b :: r).toArray 62)).alloc (.cells (.int .i64 c :: .int .i64 d :: s).toArray 62)).drew.alloc (.cells #[.int .i64 (cmpN d b), .int .i64 (cmpN a c)] 3)).cell? ⟨W.heap.size + 2, 0, none⟩ = some (.int .i64 (cmpN d b)) ∧ (((W.alloc (.cells (.int .i64 a :: .int .i64 b :: r).toArray 62)).alloc (.cells (.int .i64 c :: .int .i64 d :: s).toArray 62)).drew.alloc (.cells #[.int .i64 (cmpN d b), .int .i64 (cmpN a c)] 3)).cell? ⟨W.heap.size + 2, 1, none⟩ = some (.int .i64 (cmpN a c)) := by
    have b3 := Blk.new ((W.alloc (.cells (.int .i64 a :: .int .i64 b :: r).toArray 62)).alloc (.cells (.int .i64 c :: .int .i64 d :: s).toArray 62)).drew 3 #[.int .i64 (cmpN d b), .int .i64 (cmpN a c)]
    rw [show ((W.alloc (.cells (.int .i64 a :: .int .i64 b :: r).toArray 62)).alloc (.cells (.int .i64 c :: .int .i64 d :: s).toArray 62)).drew.heap.size = W.heap.size + 2 from hz2] at b3
    exact ⟨by rw [b3.cell]; rfl, by rw [b3.cell]; rfl⟩
  clear B1 B2 hcS
  go_wp2_with fail
  refine wp_region_held_drew (S := fun w' => ((w'.cell? ⟨W.heap.size, 0, none⟩ = some (.int .i64 a) ∧ w'.cell? ⟨W.heap.size, 1, none⟩ = some (.int .i64 b)) ∧ (w'.cell? ⟨W.heap.size + 1, 0, none⟩ = some (.int .i64 c) ∧ w'.cell? ⟨W.heap.size + 1, 1, none⟩ = some (.int .i64 d)))) (by kernel_rfl) hc0 (fun hS => ?_)
  refine wpAnyH_take (i := 0) (v := .pointer (some ⟨W.heap.size + 1, 1, none⟩)) rfl (by kernel_rfl) (by kernel_rfl) (by kernel_rfl) (fun _ _ _ h => h) (yields_of rfl (fun w => by go_simp)) hS ?_
  simp only [Act.put, List.setIfInBounds_toArray]
  refine wpAnyH_take (i := 1) (v := .int .i64 d) rfl (by kernel_rfl) (by kernel_rfl) (by kernel_rfl) (fun _ _ _ h => h) (.inl ⟨rfl, fun w h => by have e := h.2.2; go_simp⟩) hS ?_
  simp only [Act.put]
  refine wpAnyH_take (i := 2) (v := .pointer (some ⟨W.heap.size, 1, none⟩)) rfl (by kernel_rfl) (by kernel_rfl) (by kernel_rfl) (fun _ _ _ h => h) (yields_of rfl (fun w => by go_simp)) hS ?_
  simp only [Act.put]
  refine wpAnyH_take (i := 3) (v := .int .i64 b) rfl (by kernel_rfl) (by kernel_rfl) (by kernel_rfl) (fun _ _ _ h => h) (.inl ⟨rfl, fun w h => by have e := h.1.2; go_simp⟩) hS ?_
  simp only [Act.put]
  refine wpAnyH_take (i := 5) (v := .pointer (some ⟨W.heap.size, 0, none⟩)) rfl (by kernel_rfl) (by kernel_rfl) (by kernel_rfl) (fun _ _ _ h => h) (yields_of rfl (fun w => by go_simp)) hS ?_
  simp only [Act.put]
  refine wpAnyH_take (i := 6) (v := .int .i64 a) rfl (by kernel_rfl) (by kernel_rfl) (by kernel_rfl) (fun _ _ _ h => h) (.inl ⟨rfl, fun w h => by have e := h.1.1; go_simp⟩) hS ?_
  simp only [Act.put]
  refine wpAnyH_take (i := 7) (v := .pointer (some ⟨W.heap.size + 1, 0, none⟩)) rfl (by kernel_rfl) (by kernel_rfl) (by kernel_rfl) (fun _ _ _ h => h) (yields_of rfl (fun w => by go_simp)) hS ?_
  simp only [Act.put]
  refine wpAnyH_take (i := 8) (v := .int .i64 c) rfl (by kernel_rfl) (by kernel_rfl) (by kernel_rfl) (fun _ _ _ h => h) (.inl ⟨rfl, fun w h => by have e := h.2.1; go_simp⟩) hS ?_
  simp only [Act.put]
  refine wpAnyH_ready (rs := [4]) (by kernel_rfl) (by simp) ?_
  refine AllReadyH.cons (o := _) rfl (fun K hK => ?_) AllReadyH.nil
  go_simp
  refine (compare_any d b _).mono ?_
  rintro e wq1 ⟨rfl, rfl⟩
  go_wp2_with fail
  refine hK.out _ _ hS (fun _ => ?_)
  refine wpAnyH_ready (rs := [9]) (by kernel_rfl) (by simp) ?_
  refine AllReadyH.cons (o := _) rfl (fun K hK => ?_) AllReadyH.nil
  go_simp
  refine (compare_any a c _).mono ?_
  rintro e wq1 ⟨rfl, rfl⟩
  go_wp2_with fail
  refine hK.out _ _ hS (fun _ => ?_)
  refine wpAnyH_ready (rs := [10]) (by kernel_rfl) (by simp) ?_
  refine AllReadyH.cons (o := _) rfl (fun K hK => ?_) AllReadyH.nil
  go_simp
  refine hK.out _ _ hc1 (fun _ => ?_)
  refine wpAnyH_ready (rs := [11]) (by kernel_rfl) (by simp) ?_
  refine AllReadyH.cons (o := _) rfl (fun K hK => ?_) AllReadyH.nil
  go_simp
  refine (or_any (W.heap.size + 2) (cmpN d b) (cmpN a c) _ hq.1 hq.2).mono ?_
  rintro e wq1 ⟨rfl, rfl⟩
  go_wp2_with fail
  refine hK.out _ _ hc1 (fun _ => ?_)
  refine wpAnyH_ready (rs := [12]) (by kernel_rfl) (by simp) ?_
  refine AllReadyH.cons (o := _) rfl (fun K hK => ?_) AllReadyH.nil
  go_simp
  refine hK.out _ _ hc1 (fun _ => ?_)
  refine wpAnyH_done (by kernel_rfl) ?_ _
  go_wp2_with fail
  go_ret
  exact ⟨rfl, 1, #[.cells (.int .i64 a :: .int .i64 b :: r).toArray 62, .cells (.int .i64 c :: .int .i64 d :: s).toArray 62, .cells #[.int .i64 (cmpN d b), .int .i64 (cmpN a c)] 3], grow3 _ _ _ _⟩
/-- a bid's cells, whatever its salt's length -/
def encB (b : Bd) : List Value := .int .i64 b.who :: .int .i64 b.amt :: bytes ((b.salt ++ List.replicate 32 0).take 32)
theorem encB_len (b : Bd) : (encB b).length = 34 := by simp [encB, up]
theorem encB_ok {b : Bd} (h : b.salt.length = 32) : encB b = bc b := by
  unfold encB bc
  rw [List.take_append_of_le_length (by omega), List.take_of_length_le (by omega)]
instance : Inhabited Bd := ⟨⟨0, 0, []⟩⟩
def cfB (x y : Bd) : Int := orN (cmpN y.amt x.amt) (cmpN x.who y.who)
/-- x goes before y -/
def ltB (x y : Bd) : Prop := y.amt < x.amt ∨ (x.amt = y.amt ∧ x.who < y.who)
instance (x y : Bd) : Decidable (ltB x y) := by unfold ltB; infer_instance
theorem ltOf_cfB (x y : Bd) : ltOf cfB x y = decide (ltB x y) := by
  unfold ltOf
  have : cfB x y < 0 ↔ ltB x y := by
    unfold cfB ltB orN cmpN
    by_cases h1 : y.amt < x.amt
    · simp [h1]
    · by_cases h2 : x.amt < y.amt
      · simp [h1, h2]; omega
      · by_cases h3 : x.who < y.who
        · simp [h1, h2, h3]; omega
        · by_cases h4 : y.who < x.who
          · simp [h1, h2, h3, h4]
          · simp [h1, h2, h3, h4]
  simp [this]
theorem swoB : SWO (ltOf cfB) where
  irrefl x := by rw [ltOf_cfB]; simp [ltB]
  trans x y z h1 h2 := by rw [ltOf_cfB, decide_eq_true_eq] at h1 h2 ⊢; unfold ltB at *; omega
  ntrans x y z h1 h2 := by rw [ltOf_cfB, decide_eq_false_iff_not] at h1 h2 ⊢; unfold ltB at *; omega
theorem isAggB : ∀ w, (isAgg (Tryd.sortB_ren.t 24)).run Tryd.prog w = .ok true w := Tryd.isAgg62
theorem sizeB : ∀ w, (Go.sizeOf (Tryd.sortB_ren.t 24)).run Tryd.prog w = .ok 34 w := Tryd.sizeOf62
theorem cmpLaysB (blk off size : Nat) (w : World) : CmpLays Tryd.prog 42 #[] encB 34 cfB blk off size w := fun _ _ _ _ x y => cmp_any x.who x.amt y.who y.amt _ _ _
theorem sortWorld_below {enc : Bd → List Value} {k : Nat} {w : World} {blk off n B : Nat} {d : Array Bd} {os : Array Obj} (hB : B ≤ blk) (hb : blk < w.heap.size) : RowKit.Below B w (sortWorldK enc k w blk off n d os) := by
  refine ⟨rfl, rfl, rfl, ?_, fun j hj => ?_⟩
  · simp [sortWorldK, putRowK, putRow, mapBlock, grow, Sort.ahead]
  · show ((w.heap.modify blk _) ++ os)[j]? = w.heap[j]?
    rw [Array.getElem?_append, if_pos (by simp; omega), Array.getElem?_modify, if_neg (by omega)]
theorem flat_bc {cs : List Bd} (h : ∀ b ∈ cs, b.salt.length = 32) {i j : Nat} {b : Bd} (hb : cs[i]? = some b) (hj : j < 34) : (cs.map bc).flatten[i * 34 + j]? = (bc b)[j]? := by
  have hl : ∀ l ∈ cs.map bc, l.length = 34 := fun l hl => by obtain ⟨b, hb, rfl⟩ := List.mem_map.1 hl; exact bc_len (h b hb)
  have hf := flat_at hl (i := i) (d := bc b) (by rw [List.getElem?_map, hb]; rfl)
  rw [← hf, List.getElem?_take, if_pos hj, List.getElem?_drop]
def SortP (cs : List Bd) (B : Nat) (A : Option Addr) (w : World) (e : Ending) (w' : World) : Prop :=
  e = .returned (.tuple #[]) ∧ (∃ cs' : List Bd, cs'.Perm cs ∧ cs'.Pairwise (fun x y => ¬ ltB y x) ∧ ∀ (i : Nat) (b : Bd), cs'[i]? = some b → ∃ g : Nat, A = some ⟨g, 0, none⟩ ∧ w'.cell? ⟨g, i * 34, none⟩ = some (.int .i64 b.who) ∧ w'.cell? ⟨g, i * 34 + 1, none⟩ = some (.int .i64 b.amt)) ∧ RowKit.Below B w w'
theorem sort_any (cs : List Bd) (A : Option Addr) (n c B : Nat) (w : World) (hs : ∀ b ∈ cs, b.salt.length = 32) (ho : Own w B 62 34 A n c (cs.map bc).flatten) (hn : cs.length = n) (hB : B ≤ w.heap.size) (hn2 : n ≤ 1048576) :
    Calls Tryd.prog 41 #[.slice A n c, .func (.func 42) #[] #[]] w (SortP cs B A w) := by
  by_cases h0 : n = 0
  · subst h0
    have hnil : cs = [] := List.eq_nil_of_length_eq_zero hn
    subst hnil
    have h := AnyF.slices_SortFunc_none Tryd.sortB A c (.func (.func 42) #[] #[]) w
    change Calls Tryd.prog 41 _ _ _ at h
    refine h.mono ?_
    rintro e w' ⟨rfl, rfl⟩
    exact ⟨rfl, ⟨[], List.Perm.refl _, List.Pairwise.nil, fun i b hi => by simp at hi⟩, RowKit.Below.refl _ _⟩
  · obtain ⟨g, cur, rfl, hBg, hb, hnc, hcm, hcs, ht⟩ := ho.blk (by omega)
    have hb := hb.out
    have hlen : (cs.map bc).flatten.length = n * 34 := ho.len
    have hgl : g < w.heap.size := (ho.from_ g rfl).2
    have hcur : ∀ q, q < n * 34 → cur[q]? = (cs.map bc).flatten[q]? := fun q hq => by
      rw [← ht, List.getElem?_take, if_pos hq, Array.getElem?_toList]
    have hget : ∀ q, q < n → ∃ b, cs[q]? = some b ∧ cs.toArray[q]! = b := fun q hq => by
      refine ⟨cs[q]'(by omega), List.getElem?_eq_getElem _, ?_⟩
      rw [getElem!_pos cs.toArray q (by simp; omega)]; simp
    have hH : HoldsK encB 34 w g 0 cs.toArray := by
      intro j hj
      rw [size_flatK] at hj
      simp only [List.size_toArray] at hj
      have hq : j / 34 < n := by rw [hn] at hj; exact Nat.div_lt_of_lt_mul (by rw [Nat.mul_comm]; exact hj)
      have hm : j % 34 < 34 := Nat.mod_lt _ (by decide)
      obtain ⟨b, hb1, hb2⟩ := hget (j / 34) hq
      have h3 := flat_bc hs hb1 hm
      have hj2 : j / 34 * 34 + j % 34 = j := Nat.div_add_mod' j 34
      rw [hj2] at h3
      have hbs := hs b (List.mem_of_getElem? hb1)
      refine ⟨?_, hb.free _⟩
      rw [Nat.zero_add, hb.cell, hcur j (by rw [← hn]; exact hj), h3]
      show _ = some (id ((flatK encB 34 cs.toArray)[j]!))
      rw [get_flatK _ _ _ _ (by simpa using hj), hb2, encB_ok hbs]
      rw [getElem!_pos (bc b) (j % 34) (by rw [bc_len hbs]; exact hm)]
      exact List.getElem?_eq_getElem _
    have eg : ∀ args w, (callFunc 42 args).run Tryd.prog w = .ok (.enter 42 args) w := enters_of Tryd.func42 (by kernel_rfl) rfl
    have hsz : cs.toArray.size = n := by simp [hn]
    have h := AnyQ.slices_SortFunc Tryd.sortB 34 isAggB sizeB encB encB_len (fun x v hv => by
      simp only [encB, List.mem_cons] at hv
      rcases hv with rfl | rfl | hv
      · rfl
      · rfl
      · exact bytes_one _ v hv) cfB swoB 42 #[] g 0 c cs.toArray w eg (cmpLaysB g 0 cs.toArray.size w) hH hgl (by omega)
    rw [hsz] at h
    change Calls Tryd.prog 41 _ _ _ at h
    refine h.mono ?_
    rintro e w' ⟨rfl, d', q, os, hp, hsd, rfl⟩
    obtain ⟨p1, p2, p3⟩ := hp
    rw [hsz] at p1
    have hH' := holdsK_sortWorldK_c encB 34 w g 0 cs.toArray d' q os hH hgl (by rw [hsz]; exact p1)
    refine ⟨rfl, ⟨d'.toList, ?_, ?_, fun i b hi => ⟨g, rfl, ?_⟩⟩, sortWorld_below hBg hgl⟩
    · rw [Array.extract_eq_self_of_le (by omega), Array.extract_eq_self_of_le (by omega)] at p3
      simpa using p3
    · rw [List.pairwise_iff_getElem]
      intro i j hi hj hij
      rw [Array.length_toList] at hi hj
      have := hsd i j (Nat.zero_le _) hij (by omega)
      rw [ltOf_cfB, decide_eq_false_iff_not, getElem!_pos d' i hi, getElem!_pos d' j hj] at this
      simpa using this
    · have hil : i < d'.size := by have := (List.getElem?_eq_some_iff.1 hi).1; rwa [Array.length_toList] at this
      have hdi : d'[i]! = b := by
        rw [getElem!_pos d' i hil]
        rw [List.getElem?_eq_getElem (by rw [Array.length_toList]; exact hil)] at hi
        simpa using hi
      have c0 := (hH' (i * 34) (by rw [size_flatK]; omega)).1
      have c1 := (hH' (i * 34 + 1) (by rw [size_flatK]; omega)).1
      rw [get_flatK _ _ _ _ (by omega)] at c0 c1
      rw [show i * 34 / 34 = i by omega, show i * 34 % 34 = 0 by omega, hdi, Nat.zero_add] at c0
      rw [show (i * 34 + 1) / 34 = i by omega, show (i * 34 + 1) % 34 = 1 by omega, hdi, Nat.zero_add] at c1
      exact ⟨c0, c1⟩
end Go.Proofs.YtlaoijnlemgdfaaDoor

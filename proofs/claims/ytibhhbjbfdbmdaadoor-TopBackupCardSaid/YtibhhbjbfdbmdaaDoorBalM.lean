/- The walks of wallet.own, wallet.checked, wallet.Balance at one key, of moneyersame.Lock and moneyerref1.DigestAt. -/
import Derived.Test.YtibhhbjbfdbmdaaDoorDelM
import Derived.Test.YtibhhbjbfdbmdaaDoorBytesW
namespace Go.Proofs.YtibhhbjbfdbmdaaDoor
set_option linter.unusedVariables false
set_option linter.unusedSimpArgs false
open Go.RowKit Go.Mny
theorem bad1_strip : ∀ l : List OpC, bad1 (l.map stripO) = bad1 l
  | [] => rfl
  | o :: r => by
    show (if opN o.op o.n o.len = 0 then bad1 (r.map stripO) else opN o.op o.n o.len) = _
    rw [bad1_strip r]; rfl
theorem run2_strip : ∀ (l : List OpC) (bs : List Bool), run2 bs (l.map stripO) = run2 bs l
  | [], bs => rfl
  | o :: r, bs => by
    show (match stk bs o.op with | none => 1 | some b => run2 b (r.map stripO)) = (match stk bs o.op with | none => 1 | some b => run2 b r)
    cases stk bs o.op with
    | none => rfl
    | some b => exact run2_strip r b
theorem lockN_strip (l : List OpC) : lockN (l.map stripO) = lockN l := by unfold lockN; rw [bad1_strip, run2_strip, List.length_map]
theorem stepC_strip (p : Option CoC) (c : CoC) : stepC (p.map stripC) (stripC c) = stepC p c := by
  have h1 : ahead (p.map stripC) (stripC c) = ahead p c := by cases p <;> rfl
  have h2 : lockN (stripC c).ops = lockN c.ops := lockN_strip c.ops
  unfold stepC
  rw [h1, h2]; rfl
theorem goC_strip : ∀ (l : List CoC) (p : Option CoC), goC (p.map stripC) (l.map stripC) = goC p l
  | [], p => rfl
  | c :: r, p => by
    show (if stepC (p.map stripC) (stripC c) = 0 then goC (some (stripC c)) (r.map stripC) else stepC (p.map stripC) (stripC c)) = _
    rw [stepC_strip, show some (stripC c) = (some c).map stripC from rfl, goC_strip r (some c)]; rfl
theorem checkN_strip (l : List CoC) : checkN (l.map stripC) = checkN l := by
  unfold checkN
  rw [List.length_map, show (none : Option CoC) = Option.map stripC none from rfl, goC_strip]; rfl
theorem amts_strip (l : List CoC) : amts (l.map stripC) = amts l := by unfold amts; rw [List.map_map]; rfl
theorem sumC_strip (l : List CoC) : sumC (l.map stripC) = sumC l := by unfold sumC; rw [checkN_strip, amts_strip]
theorem sumC_alike {l m : List CoC} (h : l.map stripC = m.map stripC) : sumC l = sumC m := by rw [← sumC_strip l, h, sumC_strip]
theorem sameO_strip (x y : OpC) : sameO x (stripO y) = sameO x y := rfl
theorem sameL_strip : ∀ (l m : List OpC), sameL l (m.map stripO) = sameL l m
  | [], [] => rfl
  | [], _ :: _ => rfl
  | _ :: _, [] => rfl
  | x :: r, y :: s => by
    show (if sameO x (stripO y) = true then sameL r (s.map stripO) else false) = _
    rw [sameO_strip, sameL_strip r s]; rfl
theorem keepC_strip (lk : List OpC) (c : CoC) : keepC lk (stripC c) = keepC lk c := sameL_strip lk c.ops
theorem filter_alike (lk : List OpC) {l m : List CoC} (h : l.map stripC = m.map stripC) : (l.filter (keepC lk)).map stripC = (m.filter (keepC lk)).map stripC := by
  have e : ∀ k : List CoC, (k.filter (keepC lk)).map stripC = (k.map stripC).filter (keepC lk) := fun k => by
    rw [List.filter_map]
    congr 1
    refine List.filter_congr fun c _ => ?_
    exact (keepC_strip lk c).symm
  rw [e, e, h]
theorem bad1_small : ∀ l : List OpC, bad1 l = 0 → ∀ o ∈ l, o.len ≤ 300
  | [], _, o, ho => absurd ho List.not_mem_nil
  | x :: r, h, o, ho => by
    unfold bad1 at h
    by_cases h0 : opN x.op x.n x.len = 0
    · rw [if_pos h0] at h
      rcases List.mem_cons.1 ho with rfl | ho
      · unfold opN at h0
        repeat' split at h0
        all_goals first | (cases h0; done) | omega
      · exact bad1_small r h o ho
    · rw [if_neg h0] at h; exact absurd h h0
theorem lockN_small {l : List OpC} (h : lockN l = 0) : l.length ≤ 60 ∧ ∀ o ∈ l, o.len ≤ 300 := by
  unfold lockN at h
  split at h
  · cases h
  · refine ⟨by omega, bad1_small l ?_⟩
    split at h
    · assumption
    · exact h
theorem goC_lock : ∀ (l : List CoC) (p : Option CoC), goC p l = 0 → ∀ c ∈ l, lockN c.ops = 0
  | [], _, _, c, hc => absurd hc List.not_mem_nil
  | x :: r, p, h, c, hc => by
    have h0 : stepC p x = 0 := by
      unfold goC at h
      split at h
      · assumption
      · exact h
    have hr : goC (some x) r = 0 := by
      unfold goC at h
      rw [if_pos h0] at h; exact h
    rcases List.mem_cons.1 hc with rfl | hc
    · unfold stepC at h0
      split at h0
      · cases h0
      · split at h0
        · cases h0
        · split at h0
          · cases h0
          · exact h0
    · exact goC_lock r (some x) hr c hc
theorem check_small {w : World} {D n : Nat} {A : Option Addr} {l : List CoC} (h : Coins w D A n l) (hc : checkN l = 0) : n ≤ 1000 ∧ ∀ c ∈ l, Small c := by
  have h1 := checkN_good hc
  refine ⟨by rw [← h.len]; exact h1.1, fun c hcm => ?_⟩
  have h2 : goC none l = 0 := by
    unfold checkN at hc
    split at hc
    · cases hc
    · exact hc
  obtain ⟨h3, h4⟩ := lockN_small (goC_lock l none h2 c hcm)
  exact ⟨by rw [← (h.each c hcm).ops.len]; exact h3, h4⟩
def OwnP (lk : List OpC) (l : List CoC) (w : World) (e : Ending) (w' : World) : Prop := ∃ A i c m, e = .returned (.slice A i c) ∧ Coins w' w'.heap.size A i m ∧ m.map stripC = (l.filter (keepC lk)).map stripC ∧ Below w.heap.size w w'
set_option maxHeartbeats 1000000 in
set_option maxRecDepth 100000 in
theorem own_any (lk : List OpC) (l : List CoC) (AL A : Option Addr) (cL n c : Nat) (w : World) (hL : LocksR w w.heap.size AL lk) (h : Coins w w.heap.size A n l) (hn : n ≤ 1000) (hd : ∀ c ∈ l, Small c) :
    Calls Tryd.prog 21 #[.slice AL 1 cL, .slice A n c] w (OwnP lk l w) := by
  have HL := hid hL; have H := hid h; have HD := hid hd
  clear hL h hd
  go_enter Tryd.func21, Tryd.ntmps21
  go_wp2_with fail
  obtain ⟨w1, hw1⟩ : ∃ W, W = w.alloc (.cells #[.slice AL 1 cL] 49) := ⟨_, rfl⟩
  obtain ⟨g1, hg1⟩ : ∃ g, g = w.heap.size := ⟨_, rfl⟩
  have E1 : Below w.heap.size w w1 := by rw [hw1]; exact (Below.refl _ _).alloc (Nat.le_refl _) _
  have c1 : w1.cell? ⟨g1, 0, none⟩ = some (.slice AL 1 cL) := by rw [hw1, hg1, cell_of_row _ _ 0 _ _ (0, 0) (heap_alloc_new w _)]; rfl
  have hs1 : w1.heap.size = g1 + 1 := by rw [hw1, hg1]; simp
  rw [← hw1, ← hg1]
  have C1 := hid c1; have B1 := hid E1
  have hgw : w.heap.size ≤ g1 := by omega
  have hg1s : g1 < w1.heap.size := by omega
  clear hw1 hg1 c1 hs1
  refine (copy_any l A n c w.heap.size w1 ((unhid H).below E1) E1.size hn HD.out).mono ?_
  rintro e w2 ⟨A2, c2, m, rfl, hms, hml, hmo, hmk, hb2⟩
  clear E1
  have B2 := hid hb2; have MS := hid hms
  have DL := hid (delete_any lk m A2 AL n c2 cL g1 w1.heap.size w2 hmo hml hmk (by omega) hb2.size ((hb2.cell (p := ⟨g1, 0, none⟩) hg1s).trans C1.out) hg1s ((((unhid HL).below (unhid B1)).more (unhid B1).size).below hb2))
  unfold delF at DL
  clear hms hml hmo hmk hb2
  go_wp2_with fail
  refine (unhid DL).mono ?_
  rintro e w3 ⟨A3, i, c3, rfl, hco, hb3⟩
  have HC3 := hid hco
  have B3 := hid ((unhid B1).trans (((unhid B2).trans hb3).mono (unhid B1).size))
  clear hco hb3 DL
  go_wp2_with fail
  go_ret
  exact ⟨A3, i, c3, _, rfl, unhid HC3, filter_alike lk MS.out, unhid B3⟩
/-- what wallet.Balance tells at one key -/
def balN (seed : List Nat) (l : List CoC) : Int × Int := if checkN l = 0 then sumC (l.filter (keepC (lockOps 0 seed))) else (0, checkN l)
theorem keepC_lock (g : Nat) (seed : List Nat) : keepC (lockOps g seed) = keepC (lockOps 0 seed) := funext fun c => sameL_lock g 0 seed c.ops
theorem checked_any (l : List CoC) (A : Option Addr) (n c D : Nat) (w : World) (h : Coins w D A n l) (hD : D ≤ w.heap.size) :
    Calls Tryd.prog 19 #[.int .i64 1, .slice A n c] w fun e w' => e = .returned (errV (checkN l)) ∧ Below w.heap.size w w' := by
  have C := hid (check_any l A n c D w h hD)
  clear h
  go_enter Tryd.func19, Tryd.ntmps19
  go_wp2_with fail
  refine (unhid C).mono ?_
  rintro e w' ⟨rfl, hb⟩
  have HB := hid hb
  obtain ⟨z, hz⟩ : ∃ z, errV (checkN l) = z := ⟨_, rfl⟩
  rw [hz]
  have HZ := hid hz
  clear hb C hz
  go_wp2_with fail
  go_ret
  exact ⟨by rw [HZ.out]; rfl, unhid HB⟩
def BalP (seed : List Nat) (l : List CoC) (w : World) (e : Ending) (w' : World) : Prop := e = .returned (.tuple #[.int .i64 (balN seed l).1, errV (balN seed l).2]) ∧ Below w.heap.size w w'
set_option maxHeartbeats 4000000 in
set_option maxRecDepth 100000 in
theorem balance_any (seed : List Nat) (l : List CoC) (A : Option Addr) (n c D : Nat) (w : World) (hs : seed.length = 32) (s8 : B8 seed) (h : Coins w D A n l) (hD : D ≤ w.heap.size) (hL : Laid w) (h0 : 1 < w.heap.size) :
    Calls Tryd.prog 9 #[.agg (cellsOf .u8 (up seed)), .int .i64 1, .slice A n c] w (BalP seed l w) := by
  have HL := hid hL; have HS := hid hs; have S8 := hid s8; have H := hid h
  have SL := hid (show (up seed).length = 32 by rw [up_len]; exact hs)
  clear hL hs s8 h
  have hz : checkN l = 0 ∨ checkN l ≠ 0 := Classical.em _
  go_enter Tryd.func9, Tryd.ntmps9
  go_wp2_with (with_reducible refine halt_op (some 3) (.box _ _) (fun K hK => ?_))
  refine go_on hK ?_; clear hK
  refine box_arr (k := .u8) (l := up seed) rfl (.tmp 0) rfl rfl ?_
  rintro g3 w1 hg3 s1 b1 e1
  have B1 := hid b1; have E1 := hid (e1.mono (show w.heap.size ≤ g3 by omega))
  have hg31 : g3 < w1.heap.size := by omega
  clear b1 e1 hg3 s1
  rcases hz with hz | hz
  · have he : errV (checkN l) = .nilIface := by rw [hz]; rfl
    have E : Hid (balN seed l = sumC (l.filter (keepC (lockOps 0 seed)))) := by show _ = _; unfold balN; rw [if_pos hz]
    obtain ⟨hn, hsm⟩ := check_small (unhid H) hz
    have HSM := hid hsm
    have HE := hid he
    clear he hz hsm
    go_wp2_with fail
    refine (checked_any l A n c D _ ((unhid H).below ((unhid E1).mono hD)) (by have := (unhid E1).size; omega)).mono ?_
    rintro e w2 ⟨rfl, hb2⟩
    rw [HE.out]
    have B2 := hid ((unhid B1).below hb2 hg31)
    have E2 := hid ((unhid E1).trans (hb2.mono (unhid E1).size))
    clear hb2 B1
    go_wp2_with (with_reducible refine halt_op (some 15) (.load _ _) (fun K hK => ?_))
    refine go_on hK ?_; clear hK
    refine load_arr digT rfl (.tmp 3) rfl rfl (unhid B2) SL.out ?_
    go_wp2_with fail
    refine (locks_any seed _ HS.out S8.out ((unhid HL).below (unhid E2) h0) (by have := (unhid E2).size; omega)).mono ?_
    rintro e w3 ⟨AL, cL, g, rfl, hlr, hb3⟩
    have LR := hid hlr
    have E3 := hid ((unhid E2).trans (hb3.mono (unhid E2).size))
    have hs3 := (unhid E3).size
    have H3c := (unhid H).below ((unhid E3).mono hD)
    have H3 := hid (show Coins w3 w3.heap.size A n l from ⟨H3c.row.more (by omega), H3c.len, fun x hx => let q := H3c.each x hx; ⟨q.tx, q.b8, q.at_, q.amt, q.h, q.le, q.max, q.ops.more (by omega)⟩⟩)
    clear hlr hb3 B2 H3c
    go_wp2_with fail
    refine (own_any (lockOps g seed) l AL A cL n c w3 (unhid LR) (unhid H3) hn HSM.out).mono ?_
    rintro e w4 ⟨A4, i4, c4, m4, rfl, hc4, hm4, hb4⟩
    have H4 := hid hc4
    have SE : Hid (sumC m4 = balN seed l) := by
      show _ = _
      rw [E.out, sumC_alike hm4, keepC_lock g]
    have E4 := hid ((unhid E3).trans (hb4.mono hs3))
    clear hc4 hm4 hb4 LR H3
    go_wp2_with fail
    refine (coinSum_any m4 A4 i4 c4 _ _ (unhid H4) (Nat.le_refl _)).mono ?_
    rintro e w5 ⟨rfl, hb5⟩
    rw [SE.out]
    have E5 := hid ((unhid E4).trans (hb5.mono (unhid E4).size))
    clear hb5
    go_wp2_with fail
    go_ret2
    exact ⟨rfl, unhid E5⟩
  · have he : errV (checkN l) = .iface 55 (.int .i64 (checkN l)) := by unfold errV; rw [if_neg hz]
    have E : Hid (balN seed l = (0, checkN l)) := by show _ = _; unfold balN; rw [if_neg hz]
    have HE := hid he
    clear he hz
    go_wp2_with fail
    refine (checked_any l A n c D _ ((unhid H).below ((unhid E1).mono hD)) (by have := (unhid E1).size; omega)).mono ?_
    rintro e w2 ⟨rfl, hb2⟩
    rw [HE.out]
    have E2 := hid ((unhid E1).trans (hb2.mono (unhid E1).size))
    clear hb2
    go_wp2_with fail
    go_ret2
    exact ⟨by rw [E.out, HE.out]; rfl, unhid E2⟩
end Go.Proofs.YtibhhbjbfdbmdaaDoor
namespace Go.Proofs.YtibhhbjbfdbmdaaDoor
set_option linter.unusedVariables false
set_option linter.unusedSimpArgs false
open Go.RowKit Go.Mny
theorem strip_at {l m : List OpC} (h : l.map stripO = m.map stripO) {i : Nat} {x y : OpC} (hx : l[i]? = some x) (hy : m[i]? = some y) : x.op = y.op ∧ x.n = y.n ∧ x.d = y.d := by
  have h1 : (l.map stripO)[i]? = some (stripO x) := by rw [List.getElem?_map, hx]; rfl
  have h2 : (m.map stripO)[i]? = some (stripO y) := by rw [List.getElem?_map, hy]; rfl
  rw [h, h2] at h1
  injection h1 with h1
  unfold stripO at h1
  injection h1 with e1 e2 e3 e4 e5 e6
  exact ⟨e1.symm, e2.symm, e6.symm⟩
theorem op_cells {w : World} {g o : Nat} {x : OpC} (h : w.rangeAt g o (oc x)) : w.cell? ⟨g, o, none⟩ = some (.int .i64 x.op) ∧ w.cell? ⟨g, o + 1, none⟩ = some (.int .i64 x.n) ∧ w.cell? ⟨g, o + 2, none⟩ = some (.slice x.A x.len x.cap) := ⟨h 0 _ rfl, h 1 _ rfl, h 2 _ rfl⟩
set_option maxHeartbeats 4000000 in
set_option maxRecDepth 100000 in
theorem sameLock_any (l m : List OpC) (A A' : Option Addr) (n c c' D : Nat) (w : World) (h : Ops w D A n l) (h' : Ops w D A' n m) (hD : D ≤ w.heap.size) (hn : n ≤ 60) (hs : l.map stripO = m.map stripO) (hd : ∀ o ∈ l, o.len ≤ 1000) (hd' : ∀ o ∈ m, o.len ≤ 1000) :
    Calls Tryd.prog 11 #[.slice A n c, .slice A' n c'] w fun e w' => e = .returned (.bool true) ∧ Below w.heap.size w w' := by
  have H := hid h; have H' := hid h'; have HS := hid hs; have HD := hid hd; have HD' := hid hd'
  clear h h' hs hd hd'
  have t0 : ((n : Int) != (n : Int)) = false := by simp
  go_enter Tryd.func11, Tryd.ntmps11
  go_wp2_with fail
  clear t0
  go_loopw [5] (fun v5 wr => ∃ i : Nat, i ≤ n ∧ v5 = .int .i64 (i : Int) ∧ Hid (Below w.heap.size w wr)) (fun v5 _ => n - (intOf v5).toNat)
  case atStart => exact ⟨0, Nat.zero_le _, rfl, Below.refl _ _⟩
  case round =>
    obtain ⟨i, hi, rfl, HB⟩ := hrel
    have hsz := (unhid HB).size
    by_cases hlt : i < n
    · obtain ⟨g, q, x, rfl, hg, hx, hrg, hok⟩ := ((unhid H).below ((unhid HB).mono hD)).get hlt
      obtain ⟨g', q', y, rfl, hg', hy, hrg', hok'⟩ := ((unhid H').below ((unhid HB).mono hD)).get hlt
      obtain ⟨s1, s2, s3⟩ := strip_at HS.out hx.out hy.out
      have XL := HD.out x (List.mem_of_getElem? hx.out)
      have YL := HD'.out y (List.mem_of_getElem? hy.out)
      have i2 : (i : Int) < (n : Int) := by omega
      have i0 : (0 : Int) ≤ (i : Int) := by omega
      obtain ⟨wk, hwk⟩ : ∃ wk : World, wk = wr := ⟨_, rfl⟩
      rw [← hwk] at HB hsz hrg hrg' hok hok'
      rw [← hwk]
      have RX : Hid (∀ W, Below wk.heap.size wk W → W.rangeAt g (q + i * 3) (oc x)) := hid fun W hW j v hv => by
        rw [hW.cell (p := ⟨g, q + i * 3 + j, none⟩) (show g < wk.heap.size by omega)]; exact hrg.out j v hv
      have RY : Hid (∀ W, Below wk.heap.size wk W → W.rangeAt g' (q' + i * 3) (oc y)) := hid fun W hW j v hv => by
        rw [hW.cell (p := ⟨g', q' + i * 3 + j, none⟩) (show g' < wk.heap.size by omega)]; exact hrg'.out j v hv
      have OX := hid hok; have OY := hid hok'
      have S1 := hid s1; have S2 := hid s2; have S3 := hid s3
      clear hwk hx hy hrg hrg' hok hok' s1 s2 s3
      go_wp2_with fail
      refine wp_region_held_drew (S := fun w' => Below wk.heap.size wk w') (by kernel_rfl) ((Below.refl _ _).drew) (fun hS => ?_)
      refine wpAnyH_take (i := 0) (oi := { dst := some 18, op := Op.move (Operand.tmp 0), type := 28, pos := "same.go:81", after := #[], guard := none }) (v := .slice (some ⟨g, q, none⟩) n c) rfl (by kernel_rfl) (by kernel_rfl) (by kernel_rfl) (fun _ _ _ h => h) (yields_of rfl (fun w => by go_simp)) hS ?_
      try simp only [Act.put, List.setIfInBounds_toArray, List.set_cons_zero, List.set_cons_succ]
      refine wpAnyH_take (i := 1) (oi := { dst := some 19, op := Op.move (Operand.tmp 5), type := 3, pos := "same.go:81", after := #[], guard := none }) (v := .int .i64 (i : Int)) rfl (by kernel_rfl) (by kernel_rfl) (by kernel_rfl) (fun _ _ _ h => h) (yields_of rfl (fun w => by go_simp)) hS ?_
      try simp only [Act.put, List.setIfInBounds_toArray, List.set_cons_zero, List.set_cons_succ]
      refine wpAnyH_take (i := 2) (oi := { dst := some 20, op := Op.indexAddr 28 (Operand.tmp 18) (Operand.tmp 19), type := 0, pos := "same.go:81", after := #[{ on := 0, ground := Ground.data }, { on := 1, ground := Ground.data }], guard := none }) (v := .pointer (some ⟨g, q + i * 3, none⟩)) rfl (by kernel_rfl) (by kernel_rfl) (by kernel_rfl) (fun _ _ _ h => h) (yields_of rfl (fun w => by go_simp)) hS ?_
      try simp only [Act.put, List.setIfInBounds_toArray, List.set_cons_zero, List.set_cons_succ]
      refine wpAnyH_take (i := 3) (oi := { dst := some 21, op := Op.fieldAddr 54 (Operand.tmp 20) 2, type := 0, pos := "same.go:81", after := #[{ on := 2, ground := Ground.data }], guard := none }) (v := .pointer (some ⟨g, q + i * 3 + 2, none⟩)) rfl (by kernel_rfl) (by kernel_rfl) (by kernel_rfl) (fun _ _ _ h => h) (yields_of rfl (fun w => by go_simp)) hS ?_
      try simp only [Act.put, List.setIfInBounds_toArray, List.set_cons_zero, List.set_cons_succ]
      refine wpAnyH_take (i := 4) (oi := { dst := some 22, op := Op.load 37 (Operand.tmp 21), type := 37, pos := "same.go:81", after := #[{ on := 3, ground := Ground.data }], guard := none }) (v := .slice x.A x.len x.cap) rfl (by kernel_rfl) (by kernel_rfl) (by kernel_rfl) (fun _ _ _ h => h) (.inl ⟨rfl, fun w h => by have e := (op_cells (RX.out w h)).2.2; go_simp⟩) hS ?_
      try simp only [Act.put, List.setIfInBounds_toArray, List.set_cons_zero, List.set_cons_succ]
      refine wpAnyH_take (i := 5) (oi := { dst := some 23, op := Op.move (Operand.tmp 1), type := 28, pos := "same.go:81", after := #[], guard := none }) (v := .slice (some ⟨g', q', none⟩) n c') rfl (by kernel_rfl) (by kernel_rfl) (by kernel_rfl) (fun _ _ _ h => h) (yields_of rfl (fun w => by go_simp)) hS ?_
      try simp only [Act.put, List.setIfInBounds_toArray, List.set_cons_zero, List.set_cons_succ]
      refine wpAnyH_take (i := 6) (oi := { dst := some 24, op := Op.move (Operand.tmp 5), type := 3, pos := "same.go:81", after := #[], guard := none }) (v := .int .i64 (i : Int)) rfl (by kernel_rfl) (by kernel_rfl) (by kernel_rfl) (fun _ _ _ h => h) (yields_of rfl (fun w => by go_simp)) hS ?_
      try simp only [Act.put, List.setIfInBounds_toArray, List.set_cons_zero, List.set_cons_succ]
      refine wpAnyH_take (i := 7) (oi := { dst := some 25, op := Op.indexAddr 28 (Operand.tmp 23) (Operand.tmp 24), type := 0, pos := "same.go:81", after := #[{ on := 5, ground := Ground.data }, { on := 6, ground := Ground.data }], guard := none }) (v := .pointer (some ⟨g', q' + i * 3, none⟩)) rfl (by kernel_rfl) (by kernel_rfl) (by kernel_rfl) (fun _ _ _ h => h) (yields_of rfl (fun w => by go_simp)) hS ?_
      try simp only [Act.put, List.setIfInBounds_toArray, List.set_cons_zero, List.set_cons_succ]
      refine wpAnyH_take (i := 8) (oi := { dst := some 26, op := Op.fieldAddr 54 (Operand.tmp 25) 2, type := 0, pos := "same.go:81", after := #[{ on := 7, ground := Ground.data }], guard := none }) (v := .pointer (some ⟨g', q' + i * 3 + 2, none⟩)) rfl (by kernel_rfl) (by kernel_rfl) (by kernel_rfl) (fun _ _ _ h => h) (yields_of rfl (fun w => by go_simp)) hS ?_
      try simp only [Act.put, List.setIfInBounds_toArray, List.set_cons_zero, List.set_cons_succ]
      refine wpAnyH_take (i := 9) (oi := { dst := some 27, op := Op.load 37 (Operand.tmp 26), type := 37, pos := "same.go:81", after := #[{ on := 8, ground := Ground.data }], guard := none }) (v := .slice y.A y.len y.cap) rfl (by kernel_rfl) (by kernel_rfl) (by kernel_rfl) (fun _ _ _ h => h) (.inl ⟨rfl, fun w h => by have e := (op_cells (RY.out w h)).2.2; go_simp⟩) hS ?_
      try simp only [Act.put, List.setIfInBounds_toArray, List.set_cons_zero, List.set_cons_succ]
      have hbd : Below wk.heap.size wk wk.drew := (Below.refl _ _).drew
      obtain ⟨wd, hwd⟩ : ∃ W, W = wk.drew := ⟨_, rfl⟩
      rw [← hwd] at hbd
      rw [← hwd]
      clear hwd hS
      refine wpAnyH_ready (rs := [10]) (by kernel_rfl) (by simp) ?_
      refine AllReadyH.cons (o := _) rfl (fun K hK => ?_) AllReadyH.nil
      go_simp
      have ra : Row wd D 1 x.A x.len ((up x.d).map (Value.int .u8)) := (unhid OX).row.below (hbd.mono (by omega))
      have rb : Row wd D 1 y.A y.len ((up y.d).map (Value.int .u8)) := (unhid OY).row.below (hbd.mono (by omega))
      refine (bytes_any _ _ _ _ _ _ _ _ _ _ _ ra rb (by omega) (by omega)).mono ?_
      rintro e w4 ⟨kk, rfl, rfl⟩
      rw [show decide (up x.d = up y.d) = true by rw [S3.out]; simp]
      have hb4 : Below wk.heap.size wk (wd.drewN kk) := hbd.drewN kk
      obtain ⟨w4, hw4⟩ : ∃ W, W = wd.drewN kk := ⟨_, rfl⟩
      rw [← hw4] at hb4
      rw [← hw4]
      clear hw4 ra rb hbd
      go_wp2_with fail
      refine hK.out _ _ hb4 (fun _ => ?_)
      refine wpAnyH_ready (rs := [11]) (by kernel_rfl) (by simp) ?_
      refine AllReadyH.cons (o := _) rfl (fun K hK => ?_) AllReadyH.nil
      go_simp
      refine hK.out _ _ hb4 (fun _ => ?_)
      refine wpAnyH_done (by kernel_rfl) ?_ _
      obtain ⟨cx0, cx1, _⟩ := op_cells (RX.out w4 hb4)
      obtain ⟨cy0, cy1, _⟩ := op_cells (RY.out w4 hb4)
      rw [← S1.out] at cy0
      rw [← S2.out] at cy1
      have B4 := hid ((unhid HB).trans (hb4.mono hsz))
      obtain ⟨a, ha⟩ : ∃ a, x.op = a := ⟨_, rfl⟩
      obtain ⟨b, hb⟩ : ∃ b, x.n = b := ⟨_, rfl⟩
      rw [ha] at cx0 cy0
      rw [hb] at cx1 cy1
      have t1 : (a != a) = false := by simp
      have t2 : (b != b) = false := by simp
      clear hb4 RX RY OX OY S1 S2 S3 ha hb HB XL YL
      go_wp2_with fail
      go_quiet (fail)
      go_wp2_with fail
      go_roundw
      case rel => exact ⟨i + 1, by omega, by go_num, (unhid B4).drewN _⟩
      case measure => simp [intOf]; omega
    · have hin : i = n := by omega
      subst hin
      go_wp2_with fail
      go_ret
      exact ⟨rfl, unhid HB⟩
def digK (l : List Nat) (i : Nat) : List Nat := l.take i ++ List.replicate (32 - i) 0
theorem digK_len {l : List Nat} (h : l.length = 32) {i : Nat} (hi : i ≤ 32) : (digK l i).length = 32 := by
  unfold digK
  rw [List.length_append, List.length_take, List.length_replicate]; omega
theorem digK_set {l : List Nat} (h : l.length = 32) {i x : Nat} (hi : i < 32) (hx : l[i]? = some x) : (digK l i).set i x = digK l (i + 1) := by
  unfold digK
  have hl : (l.take i).length = i := by rw [List.length_take]; omega
  rw [List.set_append_right _ _ (by omega), hl, Nat.sub_self, List.take_add_one, hx, show 32 - i = (32 - (i + 1)) + 1 by omega, List.replicate_succ, List.set_cons_zero]
  simp
set_option maxHeartbeats 1000000 in
set_option maxRecDepth 100000 in
theorem digestAt_any (l : List Nat) (A : Option Addr) (c D : Nat) (w : World) (h : Row w D 1 A 32 (bytes l)) (hD : D ≤ w.heap.size) :
    Calls Tryd.prog 8 #[.slice A 32 c, .int .i64 0] w fun e w' => e = .returned (.agg (cellsOf .u8 (up l))) ∧ Below w.heap.size w w' := by
  have hl : l.length = 32 := by have := h.len; rw [bytes_len] at this; omega
  have H := hid h; have HLN := hid hl
  clear h
  go_enter Tryd.func8, Tryd.ntmps8
  go_wp2_with (with_reducible refine halt_op (some 4) (.alloc _) (fun K hK => ?_))
  refine go_on hK ?_; clear hK
  refine alloc_arr digT rfl rfl ?_
  rintro g4 w1 hg4 s1 b1 e1
  go_wp2_with (with_reducible refine halt_op (some 5) (.alloc _) (fun K hK => ?_))
  refine go_on hK ?_; clear hK
  refine alloc_arr digT rfl rfl ?_
  rintro g5 w2 hg5 s2 b2 e2
  have h45 : g4 < g5 := by omega
  have hw4 : w.heap.size ≤ g4 := by omega
  have B4 := hid (b1.below e2 h45)
  have B5 : Hid (Blk w2 g5 23 (cellsOf .u8 (up (digK l 0)))) := by
    have e : up (digK l 0) = List.replicate 32 0 := by simp [digK, up]
    show Blk _ _ _ _
    rw [e]; exact b2
  have E2 := hid ((e1.trans (e2.mono (by omega))).mono hw4)
  clear b1 b2 e1 e2 hg4 hg5 s1 s2 hl
  go_wp2_with fail
  go_loopw [6] (fun v6 wr => ∃ i : Nat, i ≤ 32 ∧ v6 = .int .i64 (i : Int) ∧ Hid (Blk wr g5 23 (cellsOf .u8 (up (digK l i)))) ∧ Hid (Blk wr g4 23 (cellsOf .u8 (List.replicate 32 0))) ∧ Hid (Below w.heap.size w wr)) (fun v6 _ => 32 - (intOf v6).toNat)
  case atStart => exact ⟨0, by omega, rfl, B5, B4, E2⟩
  case round =>
    obtain ⟨i, hi, rfl, H5, H4, HB⟩ := hrel
    have hsz := (unhid HB).size
    by_cases hlt : i < 32
    · obtain ⟨g, o, e1, hg, hc⟩ := ((unhid H).below ((unhid HB).mono hD)).cells (by decide)
      subst e1
      obtain ⟨x, hx⟩ : ∃ x, l[i]? = some x := ⟨_, List.getElem?_eq_getElem (by rw [HLN.out]; exact hlt)⟩
      have cx : wr.cell? ⟨g, o + i, none⟩ = some (.int .u8 (x : Int)) := by
        rw [hc i (by rw [bytes_len, HLN.out]; exact hlt)]
        simp [up, hx]
      have i2 : (i : Int) < 32 := by omega
      have i0 : (0 : Int) ≤ (i : Int) := by omega
      have HX := hid hx
      clear hc hx
      go_wp2_with (with_reducible refine halt_op none (.store _ _ _) (fun K hK => ?_))
      refine go_on hK ?_; clear hK
      refine store_cell digT.one rfl (.tmp 18) (.tmp 17) rfl (g := g5) (i := i) rfl (z := (x : Int)) rfl (unhid H5) (by rw [cellsOf_size, up_len, digK_len HLN.out hi]; exact hlt) ?_
      intro w7 b7 g7
      have B7 : Hid (Blk w7 g5 23 (cellsOf .u8 (up (digK l (i + 1))))) := by
        show Blk _ _ _ _
        rw [cellsOf_set] at b7
        have e : (up (digK l i)).set i (x : Int) = up (digK l (i + 1)) := by rw [← digK_set HLN.out hlt HX.out]; simp [up, List.map_set]
        rw [e] at b7; exact b7
      have C7 := hid ((unhid H4).grown g7 (fun h => by injection h with h; omega))
      have BB7 := hid ((unhid HB).grown g7 hsz (fun q hq => by injection hq with hq; omega))
      clear b7 g7 H5 H4 HB cx
      go_wp2_with fail
      go_roundw
      case rel => exact ⟨i + 1, by omega, by go_num, B7, C7, BB7⟩
      case measure => simp [intOf]; omega
    · have hi32 : i = 32 := by omega
      subst hi32
      have e : Hid (digK l 32 = l) := by
        show _ = _
        unfold digK
        rw [List.take_of_length_le (by rw [HLN.out]; exact Nat.le_refl _)]; simp
      rw [e.out] at H5
      have UL : Hid ((up l).length = 32) := by show _ = _; rw [up_len, HLN.out]
      go_wp2_with (with_reducible refine halt_op (some 19) (.load _ _) (fun K hK => ?_))
      refine go_on hK ?_; clear hK
      refine load_arr digT rfl (.tmp 5) rfl rfl (unhid H5) UL.out ?_
      refine store_arr digT (l := up l) rfl (.tmp 4) (.tmp 19) rfl rfl rfl UL.out (unhid H4) (by simp [cellsOf]) ?_
      intro w8 b8 g8
      have B8 := hid b8
      have E8 := hid ((unhid HB).grown g8 hsz (fun q hq => by injection hq with hq; omega))
      clear b8 g8
      go_wp2_with fail
      exact bodyPost_ret (results_cell_row rfl _ _ g4 _ (cellsOf .u8 (up l)) (0, 0) _ rfl (unhid B8) digT.under rfl (by rw [cellsOf_size, UL.out]; exact digT.size)) rfl ⟨rfl, unhid E8⟩
end Go.Proofs.YtibhhbjbfdbmdaaDoor

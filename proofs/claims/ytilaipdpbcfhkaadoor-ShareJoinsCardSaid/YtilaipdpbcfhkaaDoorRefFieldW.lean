/- The walks of the reference's products, inverses and powers of bytes. -/
import Derived.Test.YtilaipdpbcfhkaaDoorFieldW
namespace Go.Proofs.YtilaipdpbcfhkaaDoor
set_option linter.unusedVariables false
open Go.RowKit Go.Mny
theorem flip_val : ∀ (i n : Nat), (n / 2 ^ i % 2 = 1 → 2 ^ i ≤ n ∧ n ^^^ 2 ^ i = n - 2 ^ i) ∧ (n / 2 ^ i % 2 ≠ 1 → n ^^^ 2 ^ i = n + 2 ^ i)
  | 0, n => by
    have h1 := Fld.div2_xor n 1
    have h2 := Fld.mod2_xor n 1
    rw [show (1 : Nat) / 2 = 0 from rfl, Nat.xor_zero] at h1
    rw [show (1 : Nat) % 2 = 1 from rfl] at h2
    rw [Nat.pow_zero, Nat.div_one]
    rcases Nat.mod_two_eq_zero_or_one n with h | h
    · rw [h, show (0 : Nat) ^^^ 1 = 1 from rfl] at h2; omega
    · rw [h, show (1 : Nat) ^^^ 1 = 0 from rfl] at h2; omega
  | i + 1, n => by
    have ih := flip_val i (n / 2)
    have h1 := Fld.div2_xor n (2 ^ (i + 1))
    have h2 := Fld.mod2_xor n (2 ^ (i + 1))
    have hp : 2 ^ (i + 1) = 2 * 2 ^ i := by rw [Nat.pow_succ, Nat.mul_comm]
    have e1 : 2 ^ (i + 1) / 2 = 2 ^ i := by omega
    have e2 : 2 ^ (i + 1) % 2 = 0 := by omega
    rw [e1] at h1
    rw [e2, Nat.xor_zero] at h2
    have e3 : n / 2 ^ (i + 1) = n / 2 / 2 ^ i := by rw [hp, Nat.div_div_eq_div_mul]
    rw [e3]
    constructor
    · intro h
      obtain ⟨k1, k2⟩ := ih.1 h
      rw [k2] at h1
      omega
    · intro h
      have k2 := ih.2 h
      rw [k2] at h1
      omega
theorem halves (n k : Nat) : n / 2 ^ k / 2 = n / 2 ^ (k + 1) := by rw [Nat.pow_succ, Nat.div_div_eq_div_mul]
def bitN (n i : Nat) : Nat := n / 2 ^ i % 2
set_option maxHeartbeats 400000 in
theorem bit_any (n i : Nat) (x : Int) (hx : x = (i : Int)) (w : World) (hn : n ≤ 1099511627776) (hi : i ≤ 64) :
    Calls Tryd.prog 25 #[.int .i64 (n : Int), .int .i64 x] w fun e w' => e = .returned (.int .i64 (bitN n i : Nat)) ∧ w = w' := by
  subst hx
  go_enter Tryd.func25, Tryd.ntmps25
  go_wp2
  go_loop [0, 5] (fun v0 v5 => ∃ k m : Nat, k ≤ i ∧ v5 = .int .i64 k ∧ v0 = .int .i64 m ∧ m ≤ 1099511627776 ∧ Hid (n / 2 ^ k = m)) (fun _ v5 => i - (intOf v5).toNat)
  case atStart => exact ⟨0, n, Nat.zero_le _, rfl, rfl, hn, by show _ = _; simp⟩
  case round =>
    obtain ⟨k, m, hk, rfl, rfl, hm, HM⟩ := hrel
    by_cases hlt : k < i
    · have t1 : (k : Int) < (i : Int) := by omega
      go_wp2
      go_round
      case rel => exact ⟨k + 1, m / 2, by omega, by go_num, by go_num, by omega, by show _ = _; rw [← halves, HM.out]⟩
      case measure => simp [intOf]; omega
    · have hki : k = i := by omega
      subst hki
      go_wp2
      go_ret
      have HB : bitN n k = m % 2 := by unfold bitN; rw [HM.out]
      exact ⟨by rw [HB, show ((m % 2 : Nat) : Int) = (m : Int) % 2 by omega]; rfl, rfl⟩
set_option maxHeartbeats 400000 in
theorem flip_any (n i : Nat) (x : Int) (hx : x = (i : Int)) (w : World) (hn : n ≤ 1099511627776) (hi : i ≤ 16) :
    Calls Tryd.prog 26 #[.int .i64 (n : Int), .int .i64 x] w fun e w' => e = .returned (.int .i64 (Fld.flip n i : Nat)) ∧ w = w' := by
  subst hx
  have hv := flip_val i n
  have hp : 2 ^ i ≤ 65536 := Nat.pow_le_pow_right (n := 2) (by decide) hi
  have HP := hid hp
  go_enter Tryd.func26, Tryd.ntmps26
  go_wp2
  go_loop [5, 6] (fun v5 v6 => ∃ k q : Nat, k ≤ i ∧ v6 = .int .i64 k ∧ v5 = .int .i64 q ∧ q ≤ 65536 ∧ Hid (2 ^ k = q)) (fun _ v6 => i - (intOf v6).toNat)
  case atStart => exact ⟨0, 1, Nat.zero_le _, rfl, rfl, by decide, rfl⟩
  case round =>
    obtain ⟨k, q, hk, rfl, rfl, hq, HQ⟩ := hrel
    by_cases hlt : k < i
    · have t1 : (k : Int) < (i : Int) := by omega
      have hb : 2 ^ (k + 1) ≤ 65536 := Nat.le_trans (Nat.pow_le_pow_right (by decide) hlt) HP.out
      have hq2 : 2 ^ (k + 1) = 2 * q := by rw [Nat.pow_succ, HQ.out, Nat.mul_comm]
      have HQ2 := hid hq2
      rw [hq2] at hb
      clear hq2 hv hp
      go_wp2
      go_round
      case rel => exact ⟨k + 1, 2 * q, by omega, by go_num, by go_num, hb, HQ2⟩
      case measure => simp [intOf]; omega
    · have hki : k = i := by omega
      subst hki
      rw [HQ.out] at hv
      by_cases h1 : n / q % 2 = 1
      · obtain ⟨k1, k2⟩ := hv.1 h1
        have HF : Hid (Fld.flip n k = n - q) := by show _ = _; unfold Fld.flip; rw [HQ.out]; exact k2
        have HB : Hid (bitN n k = 1) := by show _ = _; unfold bitN; rw [HQ.out]; exact h1
        clear hv h1 k2 hp hk hlt
        go_wp2_with fail
        refine (bit_any n k _ rfl _ hn (by omega)).mono ?_
        rintro e w' ⟨rfl, rfl⟩
        rw [HB.out]
        go_wp2_with fail
        go_ret
        exact ⟨by rw [HF.out, Int.ofNat_sub k1]; rfl, rfl⟩
      · have k2 := hv.2 h1
        have HF : Hid (Fld.flip n k = n + q) := by show _ = _; unfold Fld.flip; rw [HQ.out]; exact k2
        have HB : Hid (bitN n k = 0) := by show _ = _; unfold bitN; rw [HQ.out]; omega
        clear hv h1 k2 hp hk hlt
        go_wp2_with fail
        refine (bit_any n k _ rfl _ hn (by omega)).mono ?_
        rintro e w' ⟨rfl, rfl⟩
        rw [HB.out]
        go_wp2_with fail
        go_ret
        exact ⟨by rw [HF.out, Int.natCast_add]; rfl, rfl⟩
theorem flip_lt {p i : Nat} (hp : p < 32768) (hi : i ≤ 14) : Fld.flip p i < 32768 := by
  unfold Fld.flip
  exact Nat.xor_lt_two_pow (n := 15) hp (Nat.pow_lt_pow_right (by decide) (by omega))
def redTo : Nat → Nat → Nat
  | 0, p => p
  | j + 1, p => redTo j (Fld.redAt (j + 8) p)
theorem redTo_all (p : Nat) : redTo 7 p = Fld.red p := rfl
set_option maxHeartbeats 2000000 in
set_option maxRecDepth 100000 in
theorem rmul_any (a b : Nat) (w : World) (ha : a < 256) (hb : b < 256) :
    Calls Tryd.prog 8 #[.int .u8 (a : Int), .int .u8 (b : Int)] w fun e w' => e = .returned (.int .u8 (Fld.mul a b : Nat)) ∧ w = w' := by
  have HM := hid (Fld.refMul_eq a b ha hb)
  go_enter Tryd.func8, Tryd.ntmps8
  go_wp2_with fail
  go_loop [5, 6] (fun v5 v6 => ∃ i p : Nat, i ≤ 8 ∧ v6 = .int .i64 i ∧ v5 = .int .i64 p ∧ p < 32768 ∧ Hid (Fld.refOut a b i 0 = p)) (fun _ v6 => 8 - (intOf v6).toNat)
  case atStart => exact ⟨0, 0, Nat.zero_le _, rfl, rfl, by decide, rfl⟩
  case round =>
    obtain ⟨i, P, hi, rfl, rfl, hP, HO⟩ := hrel
    by_cases hlt : i < 8
    · have t1 : (i : Int) < 8 := by omega
      go_wp2_with fail
      go_loop [5, 7] (fun v5 v7 => ∃ j p : Nat, j ≤ 8 ∧ v7 = .int .i64 j ∧ v5 = .int .i64 p ∧ p < 32768 ∧ Hid (Fld.refIn a b i j P = p)) (fun _ v7 => 8 - (intOf v7).toNat)
      case atStart => exact ⟨0, P, Nat.zero_le _, rfl, rfl, hP, rfl⟩
      case round =>
        obtain ⟨j, p, hj, rfl, rfl, hp, HI⟩ := hrel
        by_cases hlj : j < 8
        · have t2 : (j : Int) < 8 := by omega
          have hstep : Fld.refIn a b i (j + 1) P = Fld.refPart a b i j p := by rw [← HI.out]; rfl
          unfold Fld.refPart at hstep
          obtain ⟨x, hx⟩ : ∃ x, a / 2 ^ i % 2 = x := ⟨_, rfl⟩
          obtain ⟨y, hy⟩ : ∃ y, b / 2 ^ j % 2 = y := ⟨_, rfl⟩
          rw [hx, hy] at hstep
          have HX : Hid (bitN a i = x) := hid hx; have HY : Hid (bitN b j = y) := hid hy
          clear hx hy
          by_cases hx1 : x = 1
          · subst hx1
            by_cases hy1 : y = 1
            · subst hy1
              rw [if_pos ⟨rfl, rfl⟩] at hstep
              have HST := hid hstep
              have hfl := flip_lt hp (show i + j ≤ 14 by omega)
              clear hstep
              go_wp2_with fail
              refine (bit_any a i _ rfl _ (by omega) (by omega)).mono ?_
              rintro e w' ⟨rfl, rfl⟩
              rw [HX.out]
              go_wp2_with fail
              refine (bit_any b j _ rfl _ (by omega) (by omega)).mono ?_
              rintro e w' ⟨rfl, rfl⟩
              rw [HY.out]
              go_wp2_with fail
              refine (flip_any p (i + j) _ (by omega) _ (by omega) (by omega)).mono ?_
              rintro e w' ⟨rfl, rfl⟩
              go_wp2_with fail
              go_round
              case rel => exact ⟨j + 1, _, by omega, by go_num, rfl, hfl, HST⟩
              case measure => simp [intOf]; omega
            · rw [if_neg (fun h => hy1 h.2)] at hstep
              have HST := hid hstep
              have hne : ((y : Int) == 1) = false := by simp; omega
              clear hstep hy1
              go_wp2_with fail
              refine (bit_any a i _ rfl _ (by omega) (by omega)).mono ?_
              rintro e w' ⟨rfl, rfl⟩
              rw [HX.out]
              go_wp2_with fail
              refine (bit_any b j _ rfl _ (by omega) (by omega)).mono ?_
              rintro e w' ⟨rfl, rfl⟩
              rw [HY.out]
              go_wp2_with fail
              go_round
              case rel => exact ⟨j + 1, p, by omega, by go_num, rfl, hp, HST⟩
              case measure => simp [intOf]; omega
          · rw [if_neg (fun h => hx1 h.1)] at hstep
            have HST := hid hstep
            have hne : ((x : Int) == 1) = false := by simp; omega
            clear hstep hx1
            go_wp2_with fail
            refine (bit_any a i _ rfl _ (by omega) (by omega)).mono ?_
            rintro e w' ⟨rfl, rfl⟩
            rw [HX.out]
            go_wp2_with fail
            go_round
            case rel => exact ⟨j + 1, p, by omega, by go_num, rfl, hp, HST⟩
            case measure => simp [intOf]; omega
        · have hj8 : j = 8 := by omega
          subst hj8
          go_wp2_with fail
          go_round
          case rel => exact ⟨i + 1, p, by omega, by go_num, rfl, hp, by show _ = _; rw [Fld.refOut, HO.out, HI.out]⟩
          case measure => simp [intOf]; omega
    · have hi8 : i = 8 := by omega
      subst hi8
      go_wp2_with fail
      go_loop [5, 8] (fun v5 v8 => ∃ k p : Nat, k ≤ 7 ∧ v8 = .int .i64 ((k : Int) + 7) ∧ v5 = .int .i64 p ∧ p < 32768 ∧ Hid (redTo k p = Fld.red P)) (fun _ v8 => (intOf v8).toNat)
      case atStart => exact ⟨7, P, Nat.le_refl _, rfl, rfl, hP, rfl⟩
      case round =>
        obtain ⟨k, p, hk, rfl, rfl, hp, HR⟩ := hrel
        cases k with
        | zero =>
          have hpr : Hid (p % 256 = Fld.mul a b) := by
            show _ = _
            rw [← HM.out, Fld.refMul, HO.out, ← HR.out]; rfl
          go_wp2_with fail
          go_ret
          exact ⟨by rw [← hpr.out]; rfl, rfl⟩
        | succ k =>
          rw [show (((k + 1 : Nat) : Int) + 7) = (k : Int) + 8 by omega]
          have hst := HR.out
          rw [redTo, Fld.redAt] at hst
          obtain ⟨x, hx⟩ : ∃ x, p / 2 ^ (k + 8) % 2 = x := ⟨_, rfl⟩
          rw [hx, show k + 8 - 4 = k + 4 by omega, show k + 8 - 5 = k + 3 by omega, show k + 8 - 7 = k + 1 by omega, show k + 8 - 8 = k by omega] at hst
          have HX : Hid (bitN p (k + 8) = x) := hid hx
          clear hx HR
          by_cases hx1 : x = 1
          · subst hx1
            rw [if_pos rfl] at hst
            have l1 := flip_lt hp (show k + 8 ≤ 14 by omega)
            have l2 := flip_lt l1 (show k + 4 ≤ 14 by omega)
            have l3 := flip_lt l2 (show k + 3 ≤ 14 by omega)
            have l4 := flip_lt l3 (show k + 1 ≤ 14 by omega)
            have l5 := flip_lt l4 (show k ≤ 14 by omega)
            have HST := hid hst
            clear hst
            go_wp2_with fail
            refine (bit_any p (k + 8) _ (by omega) _ (by omega) (by omega)).mono ?_
            rintro e w' ⟨rfl, rfl⟩
            rw [HX.out]
            go_wp2_with fail
            refine (flip_any p (k + 8) _ (by omega) _ (by omega) (by omega)).mono ?_
            rintro e w' ⟨rfl, rfl⟩
            go_wp2_with fail
            refine (flip_any _ (k + 4) _ (by omega) _ (by omega) (by omega)).mono ?_
            rintro e w' ⟨rfl, rfl⟩
            go_wp2_with fail
            refine (flip_any _ (k + 3) _ (by omega) _ (by omega) (by omega)).mono ?_
            rintro e w' ⟨rfl, rfl⟩
            go_wp2_with fail
            refine (flip_any _ (k + 1) _ (by omega) _ (by omega) (by omega)).mono ?_
            rintro e w' ⟨rfl, rfl⟩
            go_wp2_with fail
            refine (flip_any _ k _ (by omega) _ (by omega) (by omega)).mono ?_
            rintro e w' ⟨rfl, rfl⟩
            go_wp2_with fail
            go_round
            case rel => exact ⟨k, _, by omega, by go_num, rfl, l5, HST⟩
            case measure => simp [intOf]; omega
          · rw [if_neg hx1] at hst
            have HST := hid hst
            have hne : ((x : Int) == 1) = false := by simp; omega
            clear hst hx1
            go_wp2_with fail
            refine (bit_any p (k + 8) _ (by omega) _ (by omega) (by omega)).mono ?_
            rintro e w' ⟨rfl, rfl⟩
            rw [HX.out]
            go_wp2_with fail
            go_round
            case rel => exact ⟨k, p, by omega, by go_num, rfl, hp, HST⟩
            case measure => simp [intOf]; omega
set_option maxHeartbeats 1000000 in
theorem rinv_any (a : Nat) (w : World) (ha : a < 256) (h0 : a ≠ 0) :
    Calls Tryd.prog 9 #[.int .u8 (a : Int)] w fun e w' => e = .returned (.int .u8 (Fld.inv a : Nat)) ∧ w = w' := by
  have hs := Fld.inv_spec a ha h0
  have h1 := Fld.inv_ne a ha h0
  have HS := hid hs; have H1 := hid h1
  clear hs h1
  go_enter Tryd.func9, Tryd.ntmps9
  go_wp2_with fail
  go_loop [3] (fun v3 => ∃ b : Nat, 1 ≤ b ∧ b ≤ 256 ∧ v3 = .int .i64 b ∧ Hid (∀ c, c < b → Fld.mul a c ≠ 1)) (fun v3 => 256 - (intOf v3).toNat)
  case atStart => exact ⟨1, Nat.le_refl _, by decide, rfl, fun c hc => by
    have : c = 0 := by omega
    subst this; rw [Fld.mul_zero]; decide⟩
  case round =>
    obtain ⟨b, hb1, hb, rfl, HC⟩ := hrel
    by_cases hlt : b < 256
    · have t1 : (b : Int) < 256 := by omega
      by_cases hm : Fld.mul a b = 1
      · have HI : Hid (Fld.inv a = b) := (Fld.inv_unique a b ha hlt hm).symm
        have HM := hid hm
        clear hm
        go_wp2_with fail
        refine (rmul_any a b _ ha hlt).mono ?_
        rintro e w' ⟨rfl, rfl⟩
        rw [HM.out]
        go_wp2_with fail
        go_ret
        exact ⟨by rw [HI.out]; rfl, rfl⟩
      · have hne : (((Fld.mul a b : Nat) : Int) == 1) = false := by simp; omega
        have HM := hid hm
        clear hm
        go_wp2_with fail
        refine (rmul_any a b _ ha hlt).mono ?_
        rintro e w' ⟨rfl, rfl⟩
        go_wp2_with fail
        go_round
        case rel => exact ⟨b + 1, by omega, by omega, by go_num, fun c hc => by
          by_cases e : c = b
          · subst e; exact HM.out
          · exact HC.out c (by omega)⟩
        case measure => simp [intOf]; omega
    · exact absurd HS.out.1 (HC.out (Fld.inv a) (by have := HS.out.2; omega))
theorem pow_of_mod (a n : Nat) (ha : a < 256) (h0 : a ≠ 0) (hn : n ≤ 9223372036854775807) : Fld.pw a (n % 255) = Fld.pow a n := (Fld.pow_mod a n ha h0 (Nat.lt_of_le_of_lt hn (by decide))).symm
set_option maxHeartbeats 1000000 in
theorem rpow_any (a n : Nat) (w : World) (ha : a < 256) (hn : n ≤ 9223372036854775807) :
    Calls Tryd.prog 12 #[.int .u8 (a : Int), .int .i64 (n : Int)] w fun e w' => e = .returned (.int .u8 (Fld.pow a n : Nat)) ∧ w = w' := by
  by_cases h0 : a = 0
  · subst h0
    by_cases hz : n = 0
    · subst hz
      have HP : Hid (Fld.pow 0 0 = 1) := by show _ = _; decide +kernel
      go_enter Tryd.func12, Tryd.ntmps12
      go_wp2_with fail
      go_ret
      exact ⟨by rw [HP.out]; rfl, rfl⟩
    · have HP : Hid (Fld.pow 0 n = 0) := Fld.pow_zero_base n hz (Nat.lt_of_le_of_lt hn (by decide))
      have hne : ((n : Int) == 0) = false := by simp; omega
      clear hn
      go_enter Tryd.func12, Tryd.ntmps12
      go_wp2_with fail
      go_ret
      exact ⟨by rw [HP.out]; rfl, rfl⟩
  · have hne : ((a : Int) == 0) = false := by simp; omega
    have HP := hid (pow_of_mod a n ha h0 hn)
    obtain ⟨m, hm⟩ : ∃ m, n % 255 = m := ⟨_, rfl⟩
    have hmi : (n : Int) % 255 = (m : Int) := by omega
    have HMI := hid hmi
    have hmb : m < 255 := by omega
    rw [hm] at HP
    have t2 : (0 : Int) ≤ (n : Int) := by omega
    clear hn h0 hm hmi
    go_enter Tryd.func12, Tryd.ntmps12
    go_wp2_with fail
    go_loop [5, 6] (fun v5 v6 => ∃ k : Nat, k ≤ m ∧ v6 = .int .i64 k ∧ v5 = .int .u8 (Fld.pw a k : Nat)) (fun _ v6 => 255 - (intOf v6).toNat)
    case atStart => exact ⟨0, Nat.zero_le _, rfl, rfl⟩
    case round =>
      obtain ⟨k, hk, rfl, rfl⟩ := hrel
      have hlt2 := Fld.pw_lt a k
      by_cases hlt : k < m
      · have t1 : (k : Int) < (n : Int) % 255 := by rw [HMI.out]; omega
        go_wp2_with fail
        refine (rmul_any (Fld.pw a k) a _ hlt2 ha).mono ?_
        rintro e w' ⟨rfl, rfl⟩
        go_wp2_with fail
        go_round
        case rel => exact ⟨k + 1, by omega, by go_num, rfl⟩
        case measure => simp [intOf]; omega
      · have hkm : k = m := by omega
        have t1 : (n : Int) % 255 ≤ (k : Int) := by rw [HMI.out]; omega
        subst hkm
        go_wp2_with fail
        go_ret
        exact ⟨by rw [← HP.out]; rfl, rfl⟩
end Go.Proofs.YtilaipdpbcfhkaaDoor

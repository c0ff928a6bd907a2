/- What the functions that HourDates calls compute: their contracts. No condition. -/
import Derived.Test.YtfbodageccednaaVmC
import Derived.Test.YtfbodageccednaaProg
import Derived.WalkKit
import Derived.IntWalk
set_option linter.unusedVariables false
set_option linter.unusedSimpArgs false
namespace Cal
def lp (y : Int) : Int := if y % 4 = 0 ∧ (y % 100 ≠ 0 ∨ y % 400 = 0) then 1 else 0
def Y (y : Int) : Int := 365 * (y - 1970) + ((y - 1) / 4 - (y - 1) / 100 + (y - 1) / 400) - 477
def long (y m : Int) : Int := if m = 2 then 28 + lp y else if m = 4 ∨ m = 6 ∨ m = 9 ∨ m = 11 then 30 else 31
def C (y m : Int) : Int := if m = 1 then 0 else if m = 2 then 31 else (153 * (m - 3) + 2) / 5 + 59 + lp y
def num (y m d : Int) : Int := Y y + C y m + d - 1
theorem lp_01 (y : Int) : 0 ≤ lp y ∧ lp y ≤ 1 := by unfold lp; split <;> omega
theorem Y_succ (y : Int) : Y (y + 1) = Y y + 365 + lp y := by
  unfold Y lp
  split <;> omega
theorem C_succ (y m : Int) (h : 1 ≤ m) (h' : m ≤ 11) : C y (m + 1) = C y m + long y m := by
  have := lp_01 y
  obtain rfl | rfl | rfl | rfl | rfl | rfl | rfl | rfl | rfl | rfl | rfl : m = 1 ∨ m = 2 ∨ m = 3 ∨ m = 4 ∨ m = 5 ∨ m = 6 ∨ m = 7 ∨ m = 8 ∨ m = 9 ∨ m = 10 ∨ m = 11 := by omega
  all_goals simp [C, long] <;> omega
theorem C_12 (y : Int) : C y 12 + long y 12 = 365 + lp y := by simp [C, long]; omega
-- the program's words
def farF (y m d : Int) : Int := 365 * y + y / 4 - y / 100 + y / 400 + (153 * (m - 3) + 2) / 5 + d - 1 - 719468
theorem far_lo (y m d : Int) (h : 1 ≤ m) (h' : m < 3) : farF (y - 1) (m + 12) d = num y m d := by
  have hl : y = y := rfl
  unfold farF num Y C
  obtain rfl | rfl : m = 1 ∨ m = 2 := by omega
  all_goals simp <;> omega
theorem far_hi (y m d : Int) (h : 3 ≤ m) : farF y m d = num y m d := by
  unfold farF num Y C lp
  rw [if_neg (by omega), if_neg (by omega)]
  split <;> omega
/-- year of the era, of its left days -/
def yoe (l : Int) : Int := (l - l / 1460 + l / 36524 - l / 146096) / 365
def doy (l : Int) : Int := l - (365 * yoe l + yoe l / 4 - yoe l / 100)
theorem yoe_range (l : Int) (h0 : 0 ≤ l) (h1 : l ≤ 146096) : 0 ≤ yoe l ∧ yoe l ≤ 399 := by
  unfold yoe; omega
theorem yoe_split (l : Int) (h0 : 0 ≤ l) (h1 : l ≤ 146096) : ∃ c q r, l = 36524 * c + 1461 * q + r ∧ 0 ≤ c ∧ c ≤ 3 ∧ 0 ≤ q ∧ q ≤ 24 ∧ 0 ≤ r ∧ r ≤ 1460 ∧ (c = 3 ∨ q < 24 ∨ r ≤ 1459) := by
  refine ⟨if l = 146096 then 3 else l / 36524, (if l = 146096 then 36524 else l % 36524) / 1461, (if l = 146096 then 36524 else l % 36524) % 1461, ?_⟩
  split <;> omega
theorem yoe_eq (c q r : Int) (hc : 0 ≤ c) (hc' : c ≤ 3) (hq : 0 ≤ q) (hq' : q ≤ 24) (hr : 0 ≤ r) (hr' : r ≤ 1460) (h : c = 3 ∨ q < 24 ∨ r ≤ 1459) :
    yoe (36524 * c + 1461 * q + r) = 100 * c + 4 * q + (if r = 1460 then 3 else r / 365) := by
  unfold yoe
  have h2 : (36524 * c + 1461 * q + r) / 36524 = c + (if c = 3 ∧ q = 24 ∧ r = 1460 then 1 else 0) := by split <;> omega
  have h3 : (36524 * c + 1461 * q + r) / 146096 = (if c = 3 ∧ q = 24 ∧ r = 1460 then 1 else 0) := by split <;> omega
  rw [h2, h3]
  obtain rfl | rfl | rfl | rfl : c = 0 ∨ c = 1 ∨ c = 2 ∨ c = 3 := by omega
  all_goals split <;> split <;> omega
def atL (n : Int) : Int := (n + 719468) % 146097
def atYr (n : Int) : Int := yoe (atL n) + (n + 719468) / 146097 * 400
def atMp (n : Int) : Int := (5 * doy (atL n) + 2) / 153
def atD (n : Int) : Int := doy (atL n) - (153 * atMp n + 2) / 5 + 1
def atY (n : Int) : Int := if atMp n + 3 > 12 then atYr n + 1 else atYr n
def atM (n : Int) : Int := if atMp n + 3 > 12 then atMp n + 3 - 12 else atMp n + 3
theorem doy_range (l Q : Int) (h0 : 0 ≤ l) (h1 : l ≤ 146096) : 0 ≤ doy l ∧ doy l ≤ 364 + lp (yoe l + Q * 400 + 1) := by
  obtain ⟨c, q, r, rfl, hc, hc', hq, hq', hr, hr', h⟩ := yoe_split l h0 h1
  unfold doy
  rw [yoe_eq c q r hc hc' hq hq' hr hr' h]
  unfold lp
  by_cases hr : r = 1460
  · rw [if_pos hr]
    obtain rfl | rfl | rfl | rfl : c = 0 ∨ c = 1 ∨ c = 2 ∨ c = 3 := by omega
    all_goals split <;> omega
  · rw [if_neg hr]
    have hs : 0 ≤ r / 365 ∧ r / 365 ≤ 3 := by omega
    have h4 : (100 * c + 4 * q + r / 365) / 4 = 25 * c + q := by omega
    have h100 : (100 * c + 4 * q + r / 365) / 100 = c := by omega
    rw [h4, h100]
    split <;> omega
theorem at_ok (n : Int) (_h0 : 0 ≤ n) (_h1 : n ≤ 2932896) :
    num (atY n) (atM n) (atD n) = n ∧ 1 ≤ atM n ∧ atM n ≤ 12 ∧ 1 ≤ atD n ∧ atD n ≤ long (atY n) (atM n) := by
  have hl0 : 0 ≤ atL n ∧ atL n ≤ 146096 := by unfold atL; omega
  have hy := yoe_range (atL n) hl0.1 hl0.2
  have hd := doy_range (atL n) ((n + 719468) / 146097) hl0.1 hl0.2
  have hlp := lp_01 (yoe (atL n) + (n + 719468) / 146097 * 400 + 1)
  have hmp : 0 ≤ atMp n ∧ atMp n ≤ 11 := by unfold atMp; omega
  have hfar : ∀ x, x = atYr n → farF x (atMp n + 3) (atD n) = n := by
    intro x hx; subst hx
    unfold farF atD atYr
    have e : doy (atL n) = atL n - (365 * yoe (atL n) + yoe (atL n) / 4 - yoe (atL n) / 100) := rfl
    have e2 : atL n = (n + 719468) % 146097 := rfl
    have k1 : (yoe (atL n) + (n + 719468) / 146097 * 400) / 4 = yoe (atL n) / 4 + (n + 719468) / 146097 * 100 := by omega
    have k2 : (yoe (atL n) + (n + 719468) / 146097 * 400) / 100 = yoe (atL n) / 100 + (n + 719468) / 146097 * 4 := by omega
    have k3 : (yoe (atL n) + (n + 719468) / 146097 * 400) / 400 = (n + 719468) / 146097 := by omega
    have k4 : (153 * (atMp n + 3 - 3) + 2) / 5 = (153 * atMp n + 2) / 5 := by rw [show atMp n + 3 - 3 = atMp n by omega]
    rw [k1, k2, k3, k4]
    omega
  by_cases hm : atMp n + 3 > 12
  · have hY : atY n = atYr n + 1 := by unfold atY; rw [if_pos hm]
    have hM : atM n = atMp n + 3 - 12 := by unfold atM; rw [if_pos hm]
    have hf := hfar (atYr n) rfl
    have hlo := far_lo (atYr n + 1) (atMp n + 3 - 12) (atD n) (by omega) (by omega)
    rw [show atYr n + 1 - 1 = atYr n by omega, show atMp n + 3 - 12 + 12 = atMp n + 3 by omega, hf] at hlo
    refine ⟨by rw [hY, hM]; exact hlo.symm, by omega, by omega, ?_, ?_⟩
    · unfold atD; unfold atMp; omega
    · rw [hY, hM]
      have hy2 : atYr n + 1 = yoe (atL n) + (n + 719468) / 146097 * 400 + 1 := rfl
      rw [hy2]
      unfold long atD
      have : atMp n = 10 ∨ atMp n = 11 := by omega
      have e : atMp n = (5 * doy (atL n) + 2) / 153 := rfl
      rcases this with h | h <;> rw [h] <;> rw [h] at e <;> simp <;> omega
  · have hY : atY n = atYr n := by unfold atY; rw [if_neg hm]
    have hM : atM n = atMp n + 3 := by unfold atM; rw [if_neg hm]
    have hhi := far_hi (atYr n) (atMp n + 3) (atD n) (by omega)
    rw [hfar _ rfl] at hhi
    refine ⟨by rw [hY, hM]; exact hhi.symm, by omega, by omega, ?_, ?_⟩
    · unfold atD; unfold atMp; omega
    · rw [hY, hM]
      unfold long atD
      have e : atMp n = (5 * doy (atL n) + 2) / 153 := rfl
      have : atMp n = 0 ∨ atMp n = 1 ∨ atMp n = 2 ∨ atMp n = 3 ∨ atMp n = 4 ∨ atMp n = 5 ∨ atMp n = 6 ∨ atMp n = 7 ∨ atMp n = 8 ∨ atMp n = 9 := by omega
      rcases this with h | h | h | h | h | h | h | h | h | h <;> rw [h] <;> rw [h] at e <;> simp <;> omega
theorem C_range (y m d : Int) (hm : 1 ≤ m) (hm' : m ≤ 12) (hd : 1 ≤ d) (hd' : d ≤ long y m) : 0 ≤ C y m + d - 1 ∧ C y m + d - 1 < 365 + lp y := by
  have := lp_01 y
  obtain rfl | rfl | rfl | rfl | rfl | rfl | rfl | rfl | rfl | rfl | rfl | rfl : m = 1 ∨ m = 2 ∨ m = 3 ∨ m = 4 ∨ m = 5 ∨ m = 6 ∨ m = 7 ∨ m = 8 ∨ m = 9 ∨ m = 10 ∨ m = 11 ∨ m = 12 := by omega
  all_goals (simp [long] at hd'; simp [C]; omega)
theorem Y_mono (a b : Int) (h : a < b) : Y (a + 1) ≤ Y b := by unfold Y; omega
theorem num_inj (y m d y' m' d' : Int) (hm : 1 ≤ m) (hm1 : m ≤ 12) (hd : 1 ≤ d) (hd1 : d ≤ long y m) (hm' : 1 ≤ m') (hm1' : m' ≤ 12) (hd' : 1 ≤ d') (hd1' : d' ≤ long y' m')
    (h : num y m d = num y' m' d') : y = y' ∧ m = m' ∧ d = d' := by
  have r := C_range y m d hm hm1 hd hd1
  have r' := C_range y' m' d' hm' hm1' hd' hd1'
  have s := Y_succ y
  have s' := Y_succ y'
  have hy : y = y' := by
    rcases Int.lt_trichotomy y y' with g | g | g
    · have := Y_mono y y' g; unfold num at h; omega
    · exact g
    · have := Y_mono y' y g; unfold num at h; omega
  subst hy
  have hl := lp_01 y
  have hk : C y m + d = C y m' + d' := by unfold num at h; omega
  have hmm : m = m' := by
    rcases Int.lt_trichotomy m m' with g | g | g
    · have : C y m + long y m ≤ C y m' := by
        have key : ∀ k : Nat, m + 1 + k ≤ 12 → C y m + long y m ≤ C y (m + 1 + k) := by
          intro k
          induction k with
          | zero => intro hk; have := C_succ y m hm (by omega); simp; omega
          | succ k ih =>
            intro hk
            have h1 := ih (by omega)
            have h2 := C_succ y (m + 1 + k) (by omega) (by omega)
            have h3 : 0 ≤ long y (m + 1 + k) := by unfold long; split <;> (try split) <;> omega
            have h4 : m + 1 + ((k + 1 : Nat) : Int) = m + 1 + k + 1 := by omega
            rw [h4]; omega
        have := key (m' - m - 1).toNat (by omega)
        rw [show m + 1 + ((m' - m - 1).toNat : Int) = m' by omega] at this
        exact this
      omega
    · exact g
    · have : C y m' + long y m' ≤ C y m := by
        have key : ∀ k : Nat, m' + 1 + k ≤ 12 → C y m' + long y m' ≤ C y (m' + 1 + k) := by
          intro k
          induction k with
          | zero => intro hk; have := C_succ y m' hm' (by omega); simp; omega
          | succ k ih =>
            intro hk
            have h1 := ih (by omega)
            have h2 := C_succ y (m' + 1 + k) (by omega) (by omega)
            have h3 : 0 ≤ long y (m' + 1 + k) := by unfold long; split <;> (try split) <;> omega
            have h4 : m' + 1 + ((k + 1 : Nat) : Int) = m' + 1 + k + 1 := by omega
            rw [h4]; omega
        have := key (m - m' - 1).toNat (by omega)
        rw [show m' + 1 + ((m - m' - 1).toNat : Int) = m by omega] at this
        exact this
      omega
  subst hmm
  exact ⟨rfl, rfl, by omega⟩
theorem year_range (n y m d : Int) (h0 : 0 ≤ n) (h1 : n ≤ 2932896) (hm : 1 ≤ m) (hm' : m ≤ 12) (hd : 1 ≤ d) (hd' : d ≤ long y m) (h : num y m d = n) : 1970 ≤ y ∧ y ≤ 9999 := by
  have r := C_range y m d hm hm' hd hd'
  have s := Y_succ y
  unfold num at h
  constructor
  · by_cases g : 1970 ≤ y
    · exact g
    · have := Y_mono y 1970 (by omega); have e : Y 1970 = 0 := by decide
      omega
  · by_cases g : y ≤ 9999
    · exact g
    · have := Y_mono 9999 y (by omega); have e : Y (9999 + 1) = 2932897 := by decide
      omega
/-- a date has a number of its range -/
theorem num_range (y m d : Int) (hy : 1970 ≤ y) (hy' : y ≤ 9999) (hm : 1 ≤ m) (hm' : m ≤ 12) (hd : 1 ≤ d) (hd' : d ≤ long y m) : 0 ≤ num y m d ∧ num y m d ≤ 2932896 := by
  have r := C_range y m d hm hm' hd hd'
  have s := Y_succ y
  have e : Y 1970 = 0 := by decide
  have e2 : Y (9999 + 1) = 2932897 := by decide
  have a1 : Y 1970 ≤ Y y := by unfold Y; omega
  have a2 := Y_mono y 10000 (by omega)
  rw [show (10000 : Int) = 9999 + 1 by rfl, e2] at a2
  unfold num; omega
theorem at_num (y m d : Int) (hy : 1970 ≤ y) (hy' : y ≤ 9999) (hm : 1 ≤ m) (hm' : m ≤ 12) (hd : 1 ≤ d) (hd' : d ≤ long y m) :
    atY (num y m d) = y ∧ atM (num y m d) = m ∧ atD (num y m d) = d := by
  have r := num_range y m d hy hy' hm hm' hd hd'
  obtain ⟨a, b, c, e, f⟩ := at_ok (num y m d) r.1 r.2
  exact num_inj _ _ _ _ _ _ b c e f hm hm' hd hd' a
end Cal
namespace Go.Proofs.Ytfbodageccednaa.Hd
open Go Go.RowKit Go.Proofs.Ytfbodageccednaa.Vm Go.IntWalk
noncomputable def E : Env := ⟨Try.prog, fun _ => none⟩
@[go_sem] theorem E_P : E.P = Try.prog := rfl
@[go_sem] theorem k3 : kindT Try.prog 3 = .int .i64 := by kernel_rfl
@[go_sem] theorem k4 : kindT Try.prog 4 = .bool := by kernel_rfl
@[go_sem] theorem k42 : kindT Try.prog 42 = .struct [(0, 3), (1, 3), (2, 3)] := by kernel_rfl
@[go_sem] theorem s3 : szT Try.prog 3 = 1 := by kernel_rfl
@[go_sem] theorem s42 : szT Try.prog 42 = 3 := by kernel_rfl
@[go_sem] theorem p3 : posT Try.prog 3 = true := by kernel_rfl
@[go_sem] theorem p42 : posT Try.prog 42 = true := by kernel_rfl
@[go_sem] theorem z42 : zeroT Try.prog 42 = some [.dat (.int .i64 0), .dat (.int .i64 0), .dat (.int .i64 0)] := by kernel_rfl
theorem tmodn {a b : Int} (h : 0 ≤ a) : a.tmod b = a % b := Int.tmod_eq_emod_of_nonneg h
theorem tdivn {a b : Int} (h : 0 ≤ a) : a.tdiv b = a / b := Int.tdiv_eq_ediv_of_nonneg h
@[go_sem] theorem k24 : kindT Try.prog 24 = .int .i64 := by kernel_rfl
@[go_sem] theorem eq42 : structEqOK Try.prog 42 = true := by kernel_rfl
open Cal in
theorem C_range31 (y m d : Int) (hm : 1 ≤ m) (hm' : m ≤ 12) (hd : 1 ≤ d) (hd' : d ≤ 31) : 0 ≤ C y m + d - 1 ∧ C y m + d - 1 < 365 + lp y := by
  have := lp_01 y
  obtain rfl | rfl | rfl | rfl | rfl | rfl | rfl | rfl | rfl | rfl | rfl | rfl : m = 1 ∨ m = 2 ∨ m = 3 ∨ m = 4 ∨ m = 5 ∨ m = 6 ∨ m = 7 ∨ m = 8 ∨ m = 9 ∨ m = 10 ∨ m = 11 ∨ m = 12 := by omega
  all_goals (simp [C]; omega)
open Cal in
theorem num_range31 (y m d : Int) (hy : 1970 ≤ y) (hy' : y ≤ 9999) (hm : 1 ≤ m) (hm' : m ≤ 12) (hd : 1 ≤ d) (hd' : d ≤ 31) : 0 ≤ num y m d ∧ num y m d ≤ 2932896 := by
  have r := C_range31 y m d hm hm' hd hd'
  have s := Y_succ y
  have e : Y 1970 = 0 := by decide
  have e2 : Y (9999 + 1) = 2932897 := by decide
  have a1 : Y 1970 ≤ Y y := by unfold Y; omega
  have a2 := Y_mono y 10000 (by omega)
  rw [show (10000 : Int) = 9999 + 1 by rfl, e2] at a2
  unfold num; omega
def dateOk (y m d : Int) : Bool := decide (1970 ≤ y ∧ y ≤ 9999 ∧ 1 ≤ m ∧ m ≤ 12 ∧ 1 ≤ d ∧ d ≤ Cal.long y m)
open Cal in
theorem long_le (y m : Int) : 28 ≤ long y m ∧ long y m ≤ 31 := by have := lp_01 y; unfold long; split <;> (try split) <;> omega
open Cal in
theorem is_same (y m d : Int) (a : 1970 ≤ y) (b : y ≤ 9999) (c : 1 ≤ m) (e : m ≤ 12) (f : 1 ≤ d) (g : d ≤ 31) : (decide (atY (num y m d) = y) && (decide (atM (num y m d) = m) && decide (atD (num y m d) = d))) = dateOk y m d := by
  have r := num_range31 y m d a b c e f g
  obtain ⟨h1, h2, h3, h4, h5⟩ := at_ok _ r.1 r.2
  rw [Bool.eq_iff_iff]
  simp only [Bool.and_eq_true, decide_eq_true_eq, dateOk]
  constructor
  · rintro ⟨p, q, s⟩
    rw [p, q, s] at h5
    exact ⟨a, b, c, e, f, h5⟩
  · rintro ⟨_, _, _, _, _, h⟩
    exact at_num y m d a b c e f h
theorem is_none (y m d : Int) (h : ¬ (1970 ≤ y ∧ y ≤ 9999 ∧ 1 ≤ m ∧ m ≤ 12 ∧ 1 ≤ d ∧ d ≤ 31)) : dateOk y m d = false := by
  have := long_le y m
  simp only [dateOk, decide_eq_false_iff_not]
  omega
def daysA (y m d : Int) : Int := if dateOk y m d then Cal.num y m d else 0
def daysE (y m d : Int) : Int := if dateOk y m d then 0 else 150
def dateIn (n : Int) : Bool := decide (0 ≤ n ∧ n ≤ 2932896)
def dateY (n : Int) : Int := if dateIn n then Cal.atY n else 0
def dateM (n : Int) : Int := if dateIn n then Cal.atM n else 0
def dateD (n : Int) : Int := if dateIn n then Cal.atD n else 0
def dateE (n : Int) : Int := if dateIn n then 0 else 150
theorem leap_dec (y : Int) (h : 0 ≤ y) : (y % 4 = 0 ∧ y % 100 ≠ 0 ∨ y % 400 = 0) ↔ Cal.lp y = 1 := by
  unfold Cal.lp
  split <;> omega
end Go.Proofs.Ytfbodageccednaa.Hd
namespace Go.Proofs.Ytfbodageccednaa.Hd
open Go Go.RowKit Go.Proofs.Ytfbodageccednaa.Vm Go.IntWalk
set_option maxRecDepth 100000
set_option maxHeartbeats 4000000
def atF : PFn := ⟨fun ds => match ds with | [.int .i64 n] => 0 ≤ n ∧ n ≤ 2932896 | _ => False, fun ds => match ds with | [.int .i64 n] => [.agg [.int .i64 (Cal.atY n), .int .i64 (Cal.atM n), .int .i64 (Cal.atD n)]] | _ => []⟩
@[go_sem] theorem at_pre (n : Int) : atF.pre [.int .i64 n] = (0 ≤ n ∧ n ≤ 2932896) := rfl
@[go_sem] theorem at_res (n : Int) : atF.res [.int .i64 n] = [.agg [.int .i64 (Cal.atY n), .int .i64 (Cal.atM n), .int .i64 (Cal.atD n)]] := rfl
theorem at_ok : Pure E 17 atF := by
  apply Pure.of_body (rs := [.cell 2 42]) (n := 63) Try.func17 rfl rfl rfl
  intro ds hds
  unfold atF at hds
  dsimp only at hds
  split at hds
  case h_2 => exact hds.elim
  rename_i n
  skip
  refine ⟨Nat.le_of_ble_eq_true rfl, ?_⟩
  show VC E none _ (pureSt 63 _) _
  apply VC.regt sound_nil [0, 2]; intro K' hK; dsimp only [List.take, List.drop, List.map, strip, stripG]; simp -implicitDefEqProofs only [go_sem, Nat.reduceLT, Nat.reduceAdd, Nat.reduceEqDiff, reduceIte, Nat.reduceMul, Nat.reduceSub, reduceCtorEq, Int.reduceNe, Int.reduceEq, ne_eq, Nat.reduceLeDiff]
  (repeat' first | (refine hK _ ?_; clear hK K') | apply And.intro | omega)
  all_goals
    apply VC.at
    · simp -implicitDefEqProofs only [go_sem, Nat.reduceLT, Nat.reduceAdd, Nat.reduceEqDiff, reduceIte, Nat.reduceMul, Nat.reduceSub, reduceCtorEq, Int.reduceNe, Int.reduceEq, ne_eq, Nat.reduceLeDiff]; (try simp (disch := omega) only [i64_in, tmodn, tdivn]); exact rfl
    apply VC.regt sound_nil [0, 2]; intro K' hK; dsimp only [List.take, List.drop, List.map, strip, stripG]; simp -implicitDefEqProofs only [go_sem, Nat.reduceLT, Nat.reduceAdd, Nat.reduceEqDiff, reduceIte, Nat.reduceMul, Nat.reduceSub, reduceCtorEq, Int.reduceNe, Int.reduceEq, ne_eq, Nat.reduceLeDiff]
    (repeat' first | (refine hK _ ?_; clear hK K') | apply And.intro | omega)
    all_goals
      apply VC.at
      · simp -implicitDefEqProofs only [go_sem, Nat.reduceLT, Nat.reduceAdd, Nat.reduceEqDiff, reduceIte, Nat.reduceMul, Nat.reduceSub, reduceCtorEq, Int.reduceNe, Int.reduceEq, ne_eq, Nat.reduceLeDiff]; (try simp (disch := omega) only [i64_in, tmodn, tdivn]); exact rfl
      generalize hN : n + 719468 = N
      apply VC.regt sound_nil [0, 2, 3]; intro K' hK; dsimp only [List.take, List.drop, List.map, strip, stripG]; simp -implicitDefEqProofs only [go_sem, Nat.reduceLT, Nat.reduceAdd, Nat.reduceEqDiff, reduceIte, Nat.reduceMul, Nat.reduceSub, reduceCtorEq, Int.reduceNe, Int.reduceEq, ne_eq, Nat.reduceLeDiff]
      (repeat' first | (refine hK _ ?_; clear hK K') | apply And.intro | omega)
      all_goals
        apply VC.at
        · simp -implicitDefEqProofs only [go_sem, Nat.reduceLT, Nat.reduceAdd, Nat.reduceEqDiff, reduceIte, Nat.reduceMul, Nat.reduceSub, reduceCtorEq, Int.reduceNe, Int.reduceEq, ne_eq, Nat.reduceLeDiff]; (try simp (disch := omega) only [i64_in, tmodn, tdivn]); exact rfl
        generalize hL : N % 146097 = L
        apply VC.regt sound_nil [0, 2, 3, 4]; intro K' hK; dsimp only [List.take, List.drop, List.map, strip, stripG]; simp -implicitDefEqProofs only [go_sem, Nat.reduceLT, Nat.reduceAdd, Nat.reduceEqDiff, reduceIte, Nat.reduceMul, Nat.reduceSub, reduceCtorEq, Int.reduceNe, Int.reduceEq, ne_eq, Nat.reduceLeDiff]
        (repeat' first | (refine hK _ ?_; clear hK K') | apply And.intro | omega)
        all_goals
          apply VC.at
          · simp -implicitDefEqProofs only [go_sem, Nat.reduceLT, Nat.reduceAdd, Nat.reduceEqDiff, reduceIte, Nat.reduceMul, Nat.reduceSub, reduceCtorEq, Int.reduceNe, Int.reduceEq, ne_eq, Nat.reduceLeDiff]; (try simp (disch := omega) only [i64_in, tmodn, tdivn]); exact rfl
          generalize hY : (L - L / 1460 + L / 36524 - L / 146096) / 365 = y
          apply VC.regt sound_nil [0, 2, 3, 4]; intro K' hK; dsimp only [List.take, List.drop, List.map, strip, stripG]; simp -implicitDefEqProofs only [go_sem, Nat.reduceLT, Nat.reduceAdd, Nat.reduceEqDiff, reduceIte, Nat.reduceMul, Nat.reduceSub, reduceCtorEq, Int.reduceNe, Int.reduceEq, ne_eq, Nat.reduceLeDiff]
          (repeat' first | (refine hK _ ?_; clear hK K') | apply And.intro | omega)
          all_goals
            apply VC.at
            · simp -implicitDefEqProofs only [go_sem, Nat.reduceLT, Nat.reduceAdd, Nat.reduceEqDiff, reduceIte, Nat.reduceMul, Nat.reduceSub, reduceCtorEq, Int.reduceNe, Int.reduceEq, ne_eq, Nat.reduceLeDiff]; (try simp (disch := omega) only [i64_in, tmodn, tdivn]); exact rfl
            generalize hD : L - (365 * y + y / 4 - y / 100) = d
            have hd : 0 ≤ d ∧ d ≤ 365 := by
              have e : Cal.doy L = d := by simp only [Cal.doy, Cal.yoe, hY, hD]
              have := Cal.doy_range L 0 (by omega) (by omega)
              have := Cal.lp_01 (Cal.yoe L + 0 * 400 + 1)
              omega
            apply VC.regt sound_nil [0, 2, 3, 4, 5]; intro K' hK; dsimp only [List.take, List.drop, List.map, strip, stripG]; simp -implicitDefEqProofs only [go_sem, Nat.reduceLT, Nat.reduceAdd, Nat.reduceEqDiff, reduceIte, Nat.reduceMul, Nat.reduceSub, reduceCtorEq, Int.reduceNe, Int.reduceEq, ne_eq, Nat.reduceLeDiff]
            (repeat' first | (refine hK _ ?_; clear hK K') | apply And.intro | omega)
            all_goals
              apply VC.at
              · simp -implicitDefEqProofs only [go_sem, Nat.reduceLT, Nat.reduceAdd, Nat.reduceEqDiff, reduceIte, Nat.reduceMul, Nat.reduceSub, reduceCtorEq, Int.reduceNe, Int.reduceEq, ne_eq, Nat.reduceLeDiff]; (try simp (disch := omega) only [i64_in, tmodn, tdivn]); exact rfl
              generalize hM : (5 * d + 2) / 153 = m
              apply VC.regt sound_nil [2, 6]; intro K' hK; dsimp only [List.take, List.drop, List.map, strip, stripG]; simp -implicitDefEqProofs only [go_sem, Nat.reduceLT, Nat.reduceAdd, Nat.reduceEqDiff, reduceIte, Nat.reduceMul, Nat.reduceSub, reduceCtorEq, Int.reduceNe, Int.reduceEq, ne_eq, Nat.reduceLeDiff]
              (repeat' first | (refine hK _ ?_; clear hK K') | apply And.intro | omega)
              all_goals
                apply VC.at
                · simp -implicitDefEqProofs only [go_sem, Nat.reduceLT, Nat.reduceAdd, Nat.reduceEqDiff, reduceIte, Nat.reduceMul, Nat.reduceSub, reduceCtorEq, Int.reduceNe, Int.reduceEq, ne_eq, Nat.reduceLeDiff]; (try simp (disch := omega) only [i64_in, tmodn, tdivn]); exact rfl
                apply VC.seq
                apply VC.regt sound_nil [2, 6, 53]; intro K' hK; dsimp only [List.take, List.drop, List.map, strip, stripG]; simp -implicitDefEqProofs only [go_sem, Nat.reduceLT, Nat.reduceAdd, Nat.reduceEqDiff, reduceIte, Nat.reduceMul, Nat.reduceSub, reduceCtorEq, Int.reduceNe, Int.reduceEq, ne_eq, Nat.reduceLeDiff]
                (repeat' first | (refine hK _ ?_; clear hK K') | apply And.intro | omega)
                all_goals
                  apply VC.at
                  · simp -implicitDefEqProofs only [go_sem, Nat.reduceLT, Nat.reduceAdd, Nat.reduceEqDiff, reduceIte, Nat.reduceMul, Nat.reduceSub, reduceCtorEq, Int.reduceNe, Int.reduceEq, ne_eq, Nat.reduceLeDiff]; (try simp (disch := omega) only [i64_in, tmodn, tdivn]); exact rfl
                  first | (apply VC.condd; (focus (simp -implicitDefEqProofs only [go_sem, Nat.reduceLT, Nat.reduceAdd, Nat.reduceEqDiff, reduceIte, Nat.reduceMul, Nat.reduceSub, reduceCtorEq, Int.reduceNe, Int.reduceEq, ne_eq, Nat.reduceLeDiff]; with_reducible exact rfl))) | (apply VC.condn; (focus (simp -implicitDefEqProofs only [go_sem, Nat.reduceLT, Nat.reduceAdd, Nat.reduceEqDiff, reduceIte, Nat.reduceMul, Nat.reduceSub, reduceCtorEq, Int.reduceNe, Int.reduceEq, ne_eq, Nat.reduceLeDiff]; with_reducible exact rfl))) | (apply VC.condt; (focus (simp -implicitDefEqProofs only [go_sem, Nat.reduceLT, Nat.reduceAdd, Nat.reduceEqDiff, reduceIte, Nat.reduceMul, Nat.reduceSub, reduceCtorEq, Int.reduceNe, Int.reduceEq, ne_eq, Nat.reduceLeDiff]; with_reducible exact rfl))) | (apply VC.condb; (focus (simp -implicitDefEqProofs only [go_sem, Nat.reduceLT, Nat.reduceAdd, Nat.reduceEqDiff, reduceIte, Nat.reduceMul, Nat.reduceSub, reduceCtorEq, Int.reduceNe, Int.reduceEq, ne_eq, Nat.reduceLeDiff]; exact rfl)))
                  · intro h; try exact absurd h (by decide)
                    all_goals
                      apply VC.regt sound_nil [2, 6]; intro K' hK; dsimp only [List.take, List.drop, List.map, strip, stripG]; simp -implicitDefEqProofs only [go_sem, Nat.reduceLT, Nat.reduceAdd, Nat.reduceEqDiff, reduceIte, Nat.reduceMul, Nat.reduceSub, reduceCtorEq, Int.reduceNe, Int.reduceEq, ne_eq, Nat.reduceLeDiff]
                      (repeat' first | (refine hK _ ?_; clear hK K') | apply And.intro | omega)
                      all_goals
                        apply VC.at
                        · simp -implicitDefEqProofs only [go_sem, Nat.reduceLT, Nat.reduceAdd, Nat.reduceEqDiff, reduceIte, Nat.reduceMul, Nat.reduceSub, reduceCtorEq, Int.reduceNe, Int.reduceEq, ne_eq, Nat.reduceLeDiff]; (try simp (disch := omega) only [i64_in, tmodn, tdivn]); exact rfl
                        apply VC.regLast sound_nil; intro K' hK; dsimp only [List.take, List.drop, List.map, strip, stripG]; simp -implicitDefEqProofs only [go_sem, Nat.reduceLT, Nat.reduceAdd, Nat.reduceEqDiff, reduceIte, Nat.reduceMul, Nat.reduceSub, reduceCtorEq, Int.reduceNe, Int.reduceEq, ne_eq, Nat.reduceLeDiff]
                        (repeat' first | (refine hK _ ?_; clear hK K') | apply And.intro | omega)
                        all_goals
                          refine thenK_n ?_
                          apply VC.regt sound_nil [2]; intro K' hK; dsimp only [List.take, List.drop, List.map, strip, stripG]; simp -implicitDefEqProofs only [go_sem, Nat.reduceLT, Nat.reduceAdd, Nat.reduceEqDiff, reduceIte, Nat.reduceMul, Nat.reduceSub, reduceCtorEq, Int.reduceNe, Int.reduceEq, ne_eq, Nat.reduceLeDiff]
                          (repeat' first | (refine hK _ ?_; clear hK K') | apply And.intro | omega)
                          all_goals
                            apply VC.at
                            · simp -implicitDefEqProofs only [go_sem, Nat.reduceLT, Nat.reduceAdd, Nat.reduceEqDiff, reduceIte, Nat.reduceMul, Nat.reduceSub, reduceCtorEq, Int.reduceNe, Int.reduceEq, ne_eq, Nat.reduceLeDiff]; (try simp (disch := omega) only [i64_in, tmodn, tdivn]); exact rfl
                            apply VC.ret
                            simp -implicitDefEqProofs only [go_sem, Nat.reduceLT, Nat.reduceAdd, Nat.reduceEqDiff, reduceIte, Nat.reduceMul, Nat.reduceSub, reduceCtorEq, Int.reduceNe, Int.reduceEq, ne_eq, Nat.reduceLeDiff]
                            try simp only [List.cons.injEq, Vm.Data.agg.injEq, Vm.Data.int.injEq, Vm.Data.bool.injEq, true_and, and_true]
                            simp only [Cal.atY, Cal.atM, Cal.atD, Cal.atYr, Cal.atMp, Cal.atL, Cal.doy, Cal.yoe, hN, hL, hY, hD, hM]
                            refine ⟨?_, ?_, trivial⟩ <;> split <;> omega
                  · intro h; try exact absurd h (by decide)
                    all_goals
                      apply VC.skip
                      refine thenK_n ?_
                      apply VC.regt sound_nil [2]; intro K' hK; dsimp only [List.take, List.drop, List.map, strip, stripG]; simp -implicitDefEqProofs only [go_sem, Nat.reduceLT, Nat.reduceAdd, Nat.reduceEqDiff, reduceIte, Nat.reduceMul, Nat.reduceSub, reduceCtorEq, Int.reduceNe, Int.reduceEq, ne_eq, Nat.reduceLeDiff]
                      (repeat' first | (refine hK _ ?_; clear hK K') | apply And.intro | omega)
                      all_goals
                        apply VC.at
                        · simp -implicitDefEqProofs only [go_sem, Nat.reduceLT, Nat.reduceAdd, Nat.reduceEqDiff, reduceIte, Nat.reduceMul, Nat.reduceSub, reduceCtorEq, Int.reduceNe, Int.reduceEq, ne_eq, Nat.reduceLeDiff]; (try simp (disch := omega) only [i64_in, tmodn, tdivn]); exact rfl
                        apply VC.ret
                        simp -implicitDefEqProofs only [go_sem, Nat.reduceLT, Nat.reduceAdd, Nat.reduceEqDiff, reduceIte, Nat.reduceMul, Nat.reduceSub, reduceCtorEq, Int.reduceNe, Int.reduceEq, ne_eq, Nat.reduceLeDiff]
                        try simp only [List.cons.injEq, Vm.Data.agg.injEq, Vm.Data.int.injEq, Vm.Data.bool.injEq, true_and, and_true]
                        simp only [Cal.atY, Cal.atM, Cal.atD, Cal.atYr, Cal.atMp, Cal.atL, Cal.doy, Cal.yoe, hN, hL, hY, hD, hM]
                        refine ⟨?_, ?_, trivial⟩ <;> split <;> omega
end Go.Proofs.Ytfbodageccednaa.Hd
namespace Go.Proofs.Ytfbodageccednaa.Hd
open Go Go.RowKit Go.Proofs.Ytfbodageccednaa.Vm Go.IntWalk
set_option maxRecDepth 100000
set_option maxHeartbeats 4000000
def farF : PFn := ⟨fun ds => match ds with | [.agg [.int .i64 y, .int .i64 m, .int .i64 d]] => (1970 ≤ y ∧ y ≤ 9999) ∧ (1 ≤ m ∧ m ≤ 12) ∧ 1 ≤ d ∧ d ≤ 31 | _ => False, fun ds => match ds with | [.agg [.int .i64 y, .int .i64 m, .int .i64 d]] => [.int .i64 (Cal.num y m d)] | _ => []⟩
@[go_sem] theorem far_pre (y m d : Int) : farF.pre [.agg [.int .i64 y, .int .i64 m, .int .i64 d]] = ((1970 ≤ y ∧ y ≤ 9999) ∧ (1 ≤ m ∧ m ≤ 12) ∧ 1 ≤ d ∧ d ≤ 31) := rfl
@[go_sem] theorem far_res (y m d : Int) : farF.res [.agg [.int .i64 y, .int .i64 m, .int .i64 d]] = [.int .i64 (Cal.num y m d)] := rfl
theorem far_ok : Pure E 14 farF := by
  apply Pure.of_body (rs := [.tmp 2]) (n := 41) Try.func14 rfl rfl rfl
  intro ds hds
  unfold farF at hds
  dsimp only at hds
  split at hds
  case h_2 => exact hds.elim
  rename_i y m d
  obtain ⟨hy, hm, hd⟩ := hds
  refine ⟨Nat.le_of_ble_eq_true rfl, ?_⟩
  show VC E none _ (pureSt 41 _) _
  apply VC.regt sound_nil [1]; intro K' hK; dsimp only [List.take, List.drop, List.map, strip, stripG]; simp -implicitDefEqProofs only [go_sem, Nat.reduceLT, Nat.reduceAdd, Nat.reduceEqDiff, reduceIte, Nat.reduceMul, Nat.reduceSub, reduceCtorEq, Int.reduceNe, Int.reduceEq, ne_eq, Nat.reduceLeDiff]
  (repeat' first | (refine hK _ ?_; clear hK K') | apply And.intro | omega)
  all_goals
    apply VC.at
    · simp -implicitDefEqProofs only [go_sem, Nat.reduceLT, Nat.reduceAdd, Nat.reduceEqDiff, reduceIte, Nat.reduceMul, Nat.reduceSub, reduceCtorEq, Int.reduceNe, Int.reduceEq, ne_eq, Nat.reduceLeDiff]; (try simp (disch := omega) only [i64_in, tmodn, tdivn]); exact rfl
    apply VC.seq
    apply VC.regt sound_nil [1, 5]; intro K' hK; dsimp only [List.take, List.drop, List.map, strip, stripG]; simp -implicitDefEqProofs only [go_sem, Nat.reduceLT, Nat.reduceAdd, Nat.reduceEqDiff, reduceIte, Nat.reduceMul, Nat.reduceSub, reduceCtorEq, Int.reduceNe, Int.reduceEq, ne_eq, Nat.reduceLeDiff]
    (repeat' first | (refine hK _ ?_; clear hK K') | apply And.intro | omega)
    all_goals
      apply VC.at
      · simp -implicitDefEqProofs only [go_sem, Nat.reduceLT, Nat.reduceAdd, Nat.reduceEqDiff, reduceIte, Nat.reduceMul, Nat.reduceSub, reduceCtorEq, Int.reduceNe, Int.reduceEq, ne_eq, Nat.reduceLeDiff]; (try simp (disch := omega) only [i64_in, tmodn, tdivn]); exact rfl
      first | (apply VC.condd; (focus (simp -implicitDefEqProofs only [go_sem, Nat.reduceLT, Nat.reduceAdd, Nat.reduceEqDiff, reduceIte, Nat.reduceMul, Nat.reduceSub, reduceCtorEq, Int.reduceNe, Int.reduceEq, ne_eq, Nat.reduceLeDiff]; with_reducible exact rfl))) | (apply VC.condn; (focus (simp -implicitDefEqProofs only [go_sem, Nat.reduceLT, Nat.reduceAdd, Nat.reduceEqDiff, reduceIte, Nat.reduceMul, Nat.reduceSub, reduceCtorEq, Int.reduceNe, Int.reduceEq, ne_eq, Nat.reduceLeDiff]; with_reducible exact rfl))) | (apply VC.condt; (focus (simp -implicitDefEqProofs only [go_sem, Nat.reduceLT, Nat.reduceAdd, Nat.reduceEqDiff, reduceIte, Nat.reduceMul, Nat.reduceSub, reduceCtorEq, Int.reduceNe, Int.reduceEq, ne_eq, Nat.reduceLeDiff]; with_reducible exact rfl))) | (apply VC.condb; (focus (simp -implicitDefEqProofs only [go_sem, Nat.reduceLT, Nat.reduceAdd, Nat.reduceEqDiff, reduceIte, Nat.reduceMul, Nat.reduceSub, reduceCtorEq, Int.reduceNe, Int.reduceEq, ne_eq, Nat.reduceLeDiff]; exact rfl)))
      · intro h; try exact absurd h (by decide)
        all_goals
          apply VC.regt sound_nil [1]; intro K' hK; dsimp only [List.take, List.drop, List.map, strip, stripG]; simp -implicitDefEqProofs only [go_sem, Nat.reduceLT, Nat.reduceAdd, Nat.reduceEqDiff, reduceIte, Nat.reduceMul, Nat.reduceSub, reduceCtorEq, Int.reduceNe, Int.reduceEq, ne_eq, Nat.reduceLeDiff]
          (repeat' first | (refine hK _ ?_; clear hK K') | apply And.intro | omega)
          all_goals
            apply VC.at
            · simp -implicitDefEqProofs only [go_sem, Nat.reduceLT, Nat.reduceAdd, Nat.reduceEqDiff, reduceIte, Nat.reduceMul, Nat.reduceSub, reduceCtorEq, Int.reduceNe, Int.reduceEq, ne_eq, Nat.reduceLeDiff]; (try simp (disch := omega) only [i64_in, tmodn, tdivn]); exact rfl
            apply VC.regLast sound_nil; intro K' hK; dsimp only [List.take, List.drop, List.map, strip, stripG]; simp -implicitDefEqProofs only [go_sem, Nat.reduceLT, Nat.reduceAdd, Nat.reduceEqDiff, reduceIte, Nat.reduceMul, Nat.reduceSub, reduceCtorEq, Int.reduceNe, Int.reduceEq, ne_eq, Nat.reduceLeDiff]
            (repeat' first | (refine hK _ ?_; clear hK K') | apply And.intro | omega)
            all_goals
              refine thenK_n ?_
              apply VC.regt sound_nil [2]; intro K' hK; dsimp only [List.take, List.drop, List.map, strip, stripG]; simp -implicitDefEqProofs only [go_sem, Nat.reduceLT, Nat.reduceAdd, Nat.reduceEqDiff, reduceIte, Nat.reduceMul, Nat.reduceSub, reduceCtorEq, Int.reduceNe, Int.reduceEq, ne_eq, Nat.reduceLeDiff]
              (repeat' first | (refine hK _ ?_; clear hK K') | apply And.intro | omega)
              all_goals
                apply VC.at
                · simp -implicitDefEqProofs only [go_sem, Nat.reduceLT, Nat.reduceAdd, Nat.reduceEqDiff, reduceIte, Nat.reduceMul, Nat.reduceSub, reduceCtorEq, Int.reduceNe, Int.reduceEq, ne_eq, Nat.reduceLeDiff]; (try simp (disch := omega) only [i64_in, tmodn, tdivn]); exact rfl
                apply VC.ret
                simp -implicitDefEqProofs only [go_sem, Nat.reduceLT, Nat.reduceAdd, Nat.reduceEqDiff, reduceIte, Nat.reduceMul, Nat.reduceSub, reduceCtorEq, Int.reduceNe, Int.reduceEq, ne_eq, Nat.reduceLeDiff]
                try simp only [List.cons.injEq, Vm.Data.agg.injEq, Vm.Data.int.injEq, Vm.Data.bool.injEq, true_and, and_true]
                first | (rw [← Cal.far_lo _ _ _ (by omega) (by omega)]; unfold Cal.farF; omega) | (rw [← Cal.far_hi _ _ _ (by omega)]; unfold Cal.farF; omega)
      · intro h; try exact absurd h (by decide)
        all_goals
          apply VC.skip
          refine thenK_n ?_
          apply VC.regt sound_nil [2]; intro K' hK; dsimp only [List.take, List.drop, List.map, strip, stripG]; simp -implicitDefEqProofs only [go_sem, Nat.reduceLT, Nat.reduceAdd, Nat.reduceEqDiff, reduceIte, Nat.reduceMul, Nat.reduceSub, reduceCtorEq, Int.reduceNe, Int.reduceEq, ne_eq, Nat.reduceLeDiff]
          (repeat' first | (refine hK _ ?_; clear hK K') | apply And.intro | omega)
          all_goals
            apply VC.at
            · simp -implicitDefEqProofs only [go_sem, Nat.reduceLT, Nat.reduceAdd, Nat.reduceEqDiff, reduceIte, Nat.reduceMul, Nat.reduceSub, reduceCtorEq, Int.reduceNe, Int.reduceEq, ne_eq, Nat.reduceLeDiff]; (try simp (disch := omega) only [i64_in, tmodn, tdivn]); exact rfl
            apply VC.ret
            simp -implicitDefEqProofs only [go_sem, Nat.reduceLT, Nat.reduceAdd, Nat.reduceEqDiff, reduceIte, Nat.reduceMul, Nat.reduceSub, reduceCtorEq, Int.reduceNe, Int.reduceEq, ne_eq, Nat.reduceLeDiff]
            try simp only [List.cons.injEq, Vm.Data.agg.injEq, Vm.Data.int.injEq, Vm.Data.bool.injEq, true_and, and_true]
            first | (rw [← Cal.far_lo _ _ _ (by omega) (by omega)]; unfold Cal.farF; omega) | (rw [← Cal.far_hi _ _ _ (by omega)]; unfold Cal.farF; omega)
end Go.Proofs.Ytfbodageccednaa.Hd
namespace Go.Proofs.Ytfbodageccednaa.Hd
open Go Go.RowKit Go.Proofs.Ytfbodageccednaa.Vm Go.IntWalk
set_option maxRecDepth 100000
set_option maxHeartbeats 4000000
def leapF : PFn := ⟨fun ds => match ds with | [.int .i64 y] => 0 ≤ y | _ => False, fun ds => match ds with | [.int .i64 y] => [.bool (decide (Cal.lp y = 1))] | _ => []⟩
@[go_sem] theorem leap_pre (y : Int) : leapF.pre [.int .i64 y] = (0 ≤ y) := rfl
@[go_sem] theorem leap_res (y : Int) : leapF.res [.int .i64 y] = [.bool (decide (Cal.lp y = 1))] := rfl
theorem leap_ok : Pure E 18 leapF := by
  apply Pure.of_body (rs := [.tmp 2]) (n := 16) Try.func18 rfl rfl rfl
  intro ds hds
  unfold leapF at hds
  dsimp only at hds
  split at hds
  case h_2 => exact hds.elim
  rename_i y
  have hy := hds
  refine ⟨Nat.le_of_ble_eq_true rfl, ?_⟩
  show VC E none _ (pureSt 16 _) _
  apply VC.regt sound_nil [0]; intro K' hK; dsimp only [List.take, List.drop, List.map, strip, stripG]; simp -implicitDefEqProofs only [go_sem, Nat.reduceLT, Nat.reduceAdd, Nat.reduceEqDiff, reduceIte, Nat.reduceMul, Nat.reduceSub, reduceCtorEq, Int.reduceNe, Int.reduceEq, ne_eq, Nat.reduceLeDiff]
  (repeat' first | (refine hK _ ?_; clear hK K') | apply And.intro | omega)
  all_goals
    apply VC.at
    · simp -implicitDefEqProofs only [go_sem, Nat.reduceLT, Nat.reduceAdd, Nat.reduceEqDiff, reduceIte, Nat.reduceMul, Nat.reduceSub, reduceCtorEq, Int.reduceNe, Int.reduceEq, ne_eq, Nat.reduceLeDiff]; (try simp (disch := omega) only [i64_in, tmodn, tdivn]); exact rfl
    apply VC.regt sound_nil [2]; intro K' hK; dsimp only [List.take, List.drop, List.map, strip, stripG]; simp only [gtmp, List.getElem?_toArray, List.getElem?_cons_succ, List.getElem?_cons_zero, Option.bind_some]; simp -implicitDefEqProofs only [go_sem, Nat.reduceLT, Nat.reduceAdd, Nat.reduceEqDiff, reduceIte, Nat.reduceMul, Nat.reduceSub, reduceCtorEq, Int.reduceNe, Int.reduceEq, ne_eq, Nat.reduceLeDiff]
    (repeat' first | (refine hK _ ?_; clear hK K') | (first | apply goB_splitD | apply goA_splitD | apply goB_split | apply goA_split | apply goA_all) <;> intro _ <;> simp -implicitDefEqProofs only [go_sem, Nat.reduceLT, Nat.reduceAdd, Nat.reduceEqDiff, reduceIte, Nat.reduceMul, Nat.reduceSub, reduceCtorEq, Int.reduceNe, Int.reduceEq, ne_eq, Nat.reduceLeDiff] | apply And.intro | omega)
    all_goals
      apply VC.at
      · simp -implicitDefEqProofs only [go_sem, Nat.reduceLT, Nat.reduceAdd, Nat.reduceEqDiff, reduceIte, Nat.reduceMul, Nat.reduceSub, reduceCtorEq, Int.reduceNe, Int.reduceEq, ne_eq, Nat.reduceLeDiff]; (try simp (disch := omega) only [i64_in, tmodn, tdivn]); exact rfl
      apply VC.ret
      simp -implicitDefEqProofs only [go_sem, Nat.reduceLT, Nat.reduceAdd, Nat.reduceEqDiff, reduceIte, Nat.reduceMul, Nat.reduceSub, reduceCtorEq, Int.reduceNe, Int.reduceEq, ne_eq, Nat.reduceLeDiff]
      try simp only [List.cons.injEq, Vm.Data.agg.injEq, Vm.Data.int.injEq, Vm.Data.bool.injEq, true_and, and_true]
      refine Bool.eq_iff_iff.2 ?_; simp only [decide_eq_true_eq, ← leap_dec y hy, true_iff]; try simp (disch := omega) only [tmodn] at *
      (try simp only [decide_eq_true_eq, decide_eq_false_iff_not, Bool.not_eq_true', Bool.not_eq_false', Bool.not_eq_eq_eq_not, Bool.not_true, Bool.not_false, Decidable.not_not, ne_eq] at *)
      omega
noncomputable def ΦL : Fns := tab [(18, leapF)]
theorem ΦL_ok : Sound E ΦL := sound_cons (by kernel_rfl) leap_ok (sound_nil)
@[go_sem] theorem ΦL_18 : ΦL 18 = some leapF := rfl
def yearF : PFn := ⟨fun ds => match ds with | [.int .i64 y] => 0 ≤ y | _ => False, fun ds => match ds with | [.int .i64 y] => [.int .i64 (365 + Cal.lp y)] | _ => []⟩
@[go_sem] theorem year_pre (y : Int) : yearF.pre [.int .i64 y] = (0 ≤ y) := rfl
@[go_sem] theorem year_res (y : Int) : yearF.res [.int .i64 y] = [.int .i64 (365 + Cal.lp y)] := rfl
theorem year_ok : Pure E 16 yearF := by
  apply Pure.of_body (rs := [.tmp 2]) (n := 5) Try.func16 rfl rfl rfl
  intro ds hds
  unfold yearF at hds
  dsimp only at hds
  split at hds
  case h_2 => exact hds.elim
  rename_i y
  have hy := hds; have := Cal.lp_01 y
  refine ⟨Nat.le_of_ble_eq_true rfl, ?_⟩
  show VC E none _ (pureSt 5 _) _
  apply VC.regt ΦL_ok [0]; intro K' hK; dsimp only [List.take, List.drop, List.map, strip, stripG]; simp -implicitDefEqProofs only [go_sem, Nat.reduceLT, Nat.reduceAdd, Nat.reduceEqDiff, reduceIte, Nat.reduceMul, Nat.reduceSub, reduceCtorEq, Int.reduceNe, Int.reduceEq, ne_eq, Nat.reduceLeDiff]
  (repeat' first | (refine hK _ ?_; clear hK K') | apply And.intro | omega)
  all_goals
    apply VC.at
    · simp -implicitDefEqProofs only [go_sem, Nat.reduceLT, Nat.reduceAdd, Nat.reduceEqDiff, reduceIte, Nat.reduceMul, Nat.reduceSub, reduceCtorEq, Int.reduceNe, Int.reduceEq, ne_eq, Nat.reduceLeDiff]; (try simp (disch := omega) only [i64_in, tmodn, tdivn]); exact rfl
    apply VC.seq
    apply VC.regt ΦL_ok [4]; intro K' hK; dsimp only [List.take, List.drop, List.map, strip, stripG]; simp -implicitDefEqProofs only [go_sem, Nat.reduceLT, Nat.reduceAdd, Nat.reduceEqDiff, reduceIte, Nat.reduceMul, Nat.reduceSub, reduceCtorEq, Int.reduceNe, Int.reduceEq, ne_eq, Nat.reduceLeDiff]
    (repeat' first | (refine hK _ ?_; clear hK K') | apply And.intro | omega)
    all_goals
      apply VC.at
      · simp -implicitDefEqProofs only [go_sem, Nat.reduceLT, Nat.reduceAdd, Nat.reduceEqDiff, reduceIte, Nat.reduceMul, Nat.reduceSub, reduceCtorEq, Int.reduceNe, Int.reduceEq, ne_eq, Nat.reduceLeDiff]; (try simp (disch := omega) only [i64_in, tmodn, tdivn]); exact rfl
      first | (apply VC.condd; (focus (simp -implicitDefEqProofs only [go_sem, Nat.reduceLT, Nat.reduceAdd, Nat.reduceEqDiff, reduceIte, Nat.reduceMul, Nat.reduceSub, reduceCtorEq, Int.reduceNe, Int.reduceEq, ne_eq, Nat.reduceLeDiff]; with_reducible exact rfl))) | (apply VC.condn; (focus (simp -implicitDefEqProofs only [go_sem, Nat.reduceLT, Nat.reduceAdd, Nat.reduceEqDiff, reduceIte, Nat.reduceMul, Nat.reduceSub, reduceCtorEq, Int.reduceNe, Int.reduceEq, ne_eq, Nat.reduceLeDiff]; with_reducible exact rfl))) | (apply VC.condt; (focus (simp -implicitDefEqProofs only [go_sem, Nat.reduceLT, Nat.reduceAdd, Nat.reduceEqDiff, reduceIte, Nat.reduceMul, Nat.reduceSub, reduceCtorEq, Int.reduceNe, Int.reduceEq, ne_eq, Nat.reduceLeDiff]; with_reducible exact rfl))) | (apply VC.condb; (focus (simp -implicitDefEqProofs only [go_sem, Nat.reduceLT, Nat.reduceAdd, Nat.reduceEqDiff, reduceIte, Nat.reduceMul, Nat.reduceSub, reduceCtorEq, Int.reduceNe, Int.reduceEq, ne_eq, Nat.reduceLeDiff]; exact rfl)))
      · intro h; try exact absurd h (by decide)
        all_goals
          apply VC.regt ΦL_ok [2]; intro K' hK; dsimp only [List.take, List.drop, List.map, strip, stripG]; simp -implicitDefEqProofs only [go_sem, Nat.reduceLT, Nat.reduceAdd, Nat.reduceEqDiff, reduceIte, Nat.reduceMul, Nat.reduceSub, reduceCtorEq, Int.reduceNe, Int.reduceEq, ne_eq, Nat.reduceLeDiff]
          (repeat' first | (refine hK _ ?_; clear hK K') | apply And.intro | omega)
          all_goals
            apply VC.at
            · simp -implicitDefEqProofs only [go_sem, Nat.reduceLT, Nat.reduceAdd, Nat.reduceEqDiff, reduceIte, Nat.reduceMul, Nat.reduceSub, reduceCtorEq, Int.reduceNe, Int.reduceEq, ne_eq, Nat.reduceLeDiff]; (try simp (disch := omega) only [i64_in, tmodn, tdivn]); exact rfl
            apply VC.ret
            refine thenK_r ?_
            simp -implicitDefEqProofs only [go_sem, Nat.reduceLT, Nat.reduceAdd, Nat.reduceEqDiff, reduceIte, Nat.reduceMul, Nat.reduceSub, reduceCtorEq, Int.reduceNe, Int.reduceEq, ne_eq, Nat.reduceLeDiff]
            try simp only [List.cons.injEq, Vm.Data.agg.injEq, Vm.Data.int.injEq, Vm.Data.bool.injEq, true_and, and_true]
            first | omega | (simp only [decide_eq_true_eq, decide_eq_false_iff_not] at h; omega)
      · intro h; try exact absurd h (by decide)
        all_goals
          apply VC.skip
          refine thenK_n ?_
          apply VC.regt ΦL_ok [2]; intro K' hK; dsimp only [List.take, List.drop, List.map, strip, stripG]; simp -implicitDefEqProofs only [go_sem, Nat.reduceLT, Nat.reduceAdd, Nat.reduceEqDiff, reduceIte, Nat.reduceMul, Nat.reduceSub, reduceCtorEq, Int.reduceNe, Int.reduceEq, ne_eq, Nat.reduceLeDiff]
          (repeat' first | (refine hK _ ?_; clear hK K') | apply And.intro | omega)
          all_goals
            apply VC.at
            · simp -implicitDefEqProofs only [go_sem, Nat.reduceLT, Nat.reduceAdd, Nat.reduceEqDiff, reduceIte, Nat.reduceMul, Nat.reduceSub, reduceCtorEq, Int.reduceNe, Int.reduceEq, ne_eq, Nat.reduceLeDiff]; (try simp (disch := omega) only [i64_in, tmodn, tdivn]); exact rfl
            apply VC.ret
            simp -implicitDefEqProofs only [go_sem, Nat.reduceLT, Nat.reduceAdd, Nat.reduceEqDiff, reduceIte, Nat.reduceMul, Nat.reduceSub, reduceCtorEq, Int.reduceNe, Int.reduceEq, ne_eq, Nat.reduceLeDiff]
            try simp only [List.cons.injEq, Vm.Data.agg.injEq, Vm.Data.int.injEq, Vm.Data.bool.injEq, true_and, and_true]
            first | omega | (simp only [decide_eq_true_eq, decide_eq_false_iff_not] at h; omega)
def longF : PFn := ⟨fun ds => match ds with | [.int .i64 y, .int .i64 m] => 0 ≤ y | _ => False, fun ds => match ds with | [.int .i64 y, .int .i64 m] => [.int .i64 (Cal.long y m)] | _ => []⟩
@[go_sem] theorem long_pre (y m : Int) : longF.pre [.int .i64 y, .int .i64 m] = (0 ≤ y) := rfl
@[go_sem] theorem long_res (y m : Int) : longF.res [.int .i64 y, .int .i64 m] = [.int .i64 (Cal.long y m)] := rfl
theorem long_ok : Pure E 15 longF := by
  apply Pure.of_body (rs := [.tmp 4]) (n := 15) Try.func15 rfl rfl rfl
  intro ds hds
  unfold longF at hds
  dsimp only at hds
  split at hds
  case h_2 => exact hds.elim
  rename_i y m
  have hy := hds; have := Cal.lp_01 y
  refine ⟨Nat.le_of_ble_eq_true rfl, ?_⟩
  show VC E none _ (pureSt 15 _) _
  apply VC.regt ΦL_ok [0, 1]; intro K' hK; dsimp only [List.take, List.drop, List.map, strip, stripG]; simp -implicitDefEqProofs only [go_sem, Nat.reduceLT, Nat.reduceAdd, Nat.reduceEqDiff, reduceIte, Nat.reduceMul, Nat.reduceSub, reduceCtorEq, Int.reduceNe, Int.reduceEq, ne_eq, Nat.reduceLeDiff]
  (repeat' first | (refine hK _ ?_; clear hK K') | apply And.intro | omega)
  all_goals
    apply VC.at
    · simp -implicitDefEqProofs only [go_sem, Nat.reduceLT, Nat.reduceAdd, Nat.reduceEqDiff, reduceIte, Nat.reduceMul, Nat.reduceSub, reduceCtorEq, Int.reduceNe, Int.reduceEq, ne_eq, Nat.reduceLeDiff]; (try simp (disch := omega) only [i64_in, tmodn, tdivn]); exact rfl
    apply VC.seq
    apply VC.regt ΦL_ok [0, 5]; intro K' hK; dsimp only [List.take, List.drop, List.map, strip, stripG]; simp -implicitDefEqProofs only [go_sem, Nat.reduceLT, Nat.reduceAdd, Nat.reduceEqDiff, reduceIte, Nat.reduceMul, Nat.reduceSub, reduceCtorEq, Int.reduceNe, Int.reduceEq, ne_eq, Nat.reduceLeDiff]
    (repeat' first | (refine hK _ ?_; clear hK K') | apply And.intro | omega)
    all_goals
      apply VC.at
      · simp -implicitDefEqProofs only [go_sem, Nat.reduceLT, Nat.reduceAdd, Nat.reduceEqDiff, reduceIte, Nat.reduceMul, Nat.reduceSub, reduceCtorEq, Int.reduceNe, Int.reduceEq, ne_eq, Nat.reduceLeDiff]; (try simp (disch := omega) only [i64_in, tmodn, tdivn]); exact rfl
      apply VC.block
      apply VC.regt ΦL_ok [0, 5, 6]; intro K' hK; dsimp only [List.take, List.drop, List.map, strip, stripG]; simp -implicitDefEqProofs only [go_sem, Nat.reduceLT, Nat.reduceAdd, Nat.reduceEqDiff, reduceIte, Nat.reduceMul, Nat.reduceSub, reduceCtorEq, Int.reduceNe, Int.reduceEq, ne_eq, Nat.reduceLeDiff]
      (repeat' first | (refine hK _ ?_; clear hK K') | apply And.intro | omega)
      all_goals
        apply VC.at
        · simp -implicitDefEqProofs only [go_sem, Nat.reduceLT, Nat.reduceAdd, Nat.reduceEqDiff, reduceIte, Nat.reduceMul, Nat.reduceSub, reduceCtorEq, Int.reduceNe, Int.reduceEq, ne_eq, Nat.reduceLeDiff]; (try simp (disch := omega) only [i64_in, tmodn, tdivn]); exact rfl
        first | (apply VC.condd; (focus (simp -implicitDefEqProofs only [go_sem, Nat.reduceLT, Nat.reduceAdd, Nat.reduceEqDiff, reduceIte, Nat.reduceMul, Nat.reduceSub, reduceCtorEq, Int.reduceNe, Int.reduceEq, ne_eq, Nat.reduceLeDiff]; with_reducible exact rfl))) | (apply VC.condn; (focus (simp -implicitDefEqProofs only [go_sem, Nat.reduceLT, Nat.reduceAdd, Nat.reduceEqDiff, reduceIte, Nat.reduceMul, Nat.reduceSub, reduceCtorEq, Int.reduceNe, Int.reduceEq, ne_eq, Nat.reduceLeDiff]; with_reducible exact rfl))) | (apply VC.condt; (focus (simp -implicitDefEqProofs only [go_sem, Nat.reduceLT, Nat.reduceAdd, Nat.reduceEqDiff, reduceIte, Nat.reduceMul, Nat.reduceSub, reduceCtorEq, Int.reduceNe, Int.reduceEq, ne_eq, Nat.reduceLeDiff]; with_reducible exact rfl))) | (apply VC.condb; (focus (simp -implicitDefEqProofs only [go_sem, Nat.reduceLT, Nat.reduceAdd, Nat.reduceEqDiff, reduceIte, Nat.reduceMul, Nat.reduceSub, reduceCtorEq, Int.reduceNe, Int.reduceEq, ne_eq, Nat.reduceLeDiff]; exact rfl)))
        · intro h; try exact absurd h (by decide)
          all_goals
            apply VC.seq
            apply VC.regt ΦL_ok [9]; intro K' hK; dsimp only [List.take, List.drop, List.map, strip, stripG]; simp -implicitDefEqProofs only [go_sem, Nat.reduceLT, Nat.reduceAdd, Nat.reduceEqDiff, reduceIte, Nat.reduceMul, Nat.reduceSub, reduceCtorEq, Int.reduceNe, Int.reduceEq, ne_eq, Nat.reduceLeDiff]
            (repeat' first | (refine hK _ ?_; clear hK K') | apply And.intro | omega)
            all_goals
              apply VC.at
              · simp -implicitDefEqProofs only [go_sem, Nat.reduceLT, Nat.reduceAdd, Nat.reduceEqDiff, reduceIte, Nat.reduceMul, Nat.reduceSub, reduceCtorEq, Int.reduceNe, Int.reduceEq, ne_eq, Nat.reduceLeDiff]; (try simp (disch := omega) only [i64_in, tmodn, tdivn]); exact rfl
              first | (apply VC.condd; (focus (simp -implicitDefEqProofs only [go_sem, Nat.reduceLT, Nat.reduceAdd, Nat.reduceEqDiff, reduceIte, Nat.reduceMul, Nat.reduceSub, reduceCtorEq, Int.reduceNe, Int.reduceEq, ne_eq, Nat.reduceLeDiff]; with_reducible exact rfl))) | (apply VC.condn; (focus (simp -implicitDefEqProofs only [go_sem, Nat.reduceLT, Nat.reduceAdd, Nat.reduceEqDiff, reduceIte, Nat.reduceMul, Nat.reduceSub, reduceCtorEq, Int.reduceNe, Int.reduceEq, ne_eq, Nat.reduceLeDiff]; with_reducible exact rfl))) | (apply VC.condt; (focus (simp -implicitDefEqProofs only [go_sem, Nat.reduceLT, Nat.reduceAdd, Nat.reduceEqDiff, reduceIte, Nat.reduceMul, Nat.reduceSub, reduceCtorEq, Int.reduceNe, Int.reduceEq, ne_eq, Nat.reduceLeDiff]; with_reducible exact rfl))) | (apply VC.condb; (focus (simp -implicitDefEqProofs only [go_sem, Nat.reduceLT, Nat.reduceAdd, Nat.reduceEqDiff, reduceIte, Nat.reduceMul, Nat.reduceSub, reduceCtorEq, Int.reduceNe, Int.reduceEq, ne_eq, Nat.reduceLeDiff]; exact rfl)))
              · intro h; try exact absurd h (by decide)
                all_goals
                  apply VC.regt ΦL_ok [4]; intro K' hK; dsimp only [List.take, List.drop, List.map, strip, stripG]; simp -implicitDefEqProofs only [go_sem, Nat.reduceLT, Nat.reduceAdd, Nat.reduceEqDiff, reduceIte, Nat.reduceMul, Nat.reduceSub, reduceCtorEq, Int.reduceNe, Int.reduceEq, ne_eq, Nat.reduceLeDiff]
                  (repeat' first | (refine hK _ ?_; clear hK K') | apply And.intro | omega)
                  all_goals
                    apply VC.at
                    · simp -implicitDefEqProofs only [go_sem, Nat.reduceLT, Nat.reduceAdd, Nat.reduceEqDiff, reduceIte, Nat.reduceMul, Nat.reduceSub, reduceCtorEq, Int.reduceNe, Int.reduceEq, ne_eq, Nat.reduceLeDiff]; (try simp (disch := omega) only [i64_in, tmodn, tdivn]); exact rfl
                    apply VC.ret
                    refine thenK_r ?_
                    refine blockK_r ?_
                    refine thenK_r ?_
                    simp -implicitDefEqProofs only [go_sem, Nat.reduceLT, Nat.reduceAdd, Nat.reduceEqDiff, reduceIte, Nat.reduceMul, Nat.reduceSub, reduceCtorEq, Int.reduceNe, Int.reduceEq, ne_eq, Nat.reduceLeDiff]
                    try simp only [List.cons.injEq, Vm.Data.agg.injEq, Vm.Data.int.injEq, Vm.Data.bool.injEq, true_and, and_true]
                    (try simp only [decide_eq_true_eq, decide_eq_false_iff_not, Bool.not_eq_true', Bool.not_eq_false', Bool.not_eq_eq_eq_not, Bool.not_true, Bool.not_false, Decidable.not_not, ne_eq] at *)
                    unfold Cal.long; (repeat' split) <;> omega
              · intro h; try exact absurd h (by decide)
                all_goals
                  apply VC.skip
                  refine thenK_n ?_
                  apply VC.regt ΦL_ok [4]; intro K' hK; dsimp only [List.take, List.drop, List.map, strip, stripG]; simp -implicitDefEqProofs only [go_sem, Nat.reduceLT, Nat.reduceAdd, Nat.reduceEqDiff, reduceIte, Nat.reduceMul, Nat.reduceSub, reduceCtorEq, Int.reduceNe, Int.reduceEq, ne_eq, Nat.reduceLeDiff]
                  (repeat' first | (refine hK _ ?_; clear hK K') | apply And.intro | omega)
                  all_goals
                    apply VC.at
                    · simp -implicitDefEqProofs only [go_sem, Nat.reduceLT, Nat.reduceAdd, Nat.reduceEqDiff, reduceIte, Nat.reduceMul, Nat.reduceSub, reduceCtorEq, Int.reduceNe, Int.reduceEq, ne_eq, Nat.reduceLeDiff]; (try simp (disch := omega) only [i64_in, tmodn, tdivn]); exact rfl
                    apply VC.ret
                    refine blockK_r ?_
                    refine thenK_r ?_
                    simp -implicitDefEqProofs only [go_sem, Nat.reduceLT, Nat.reduceAdd, Nat.reduceEqDiff, reduceIte, Nat.reduceMul, Nat.reduceSub, reduceCtorEq, Int.reduceNe, Int.reduceEq, ne_eq, Nat.reduceLeDiff]
                    try simp only [List.cons.injEq, Vm.Data.agg.injEq, Vm.Data.int.injEq, Vm.Data.bool.injEq, true_and, and_true]
                    (try simp only [decide_eq_true_eq, decide_eq_false_iff_not, Bool.not_eq_true', Bool.not_eq_false', Bool.not_eq_eq_eq_not, Bool.not_true, Bool.not_false, Decidable.not_not, ne_eq] at *)
                    unfold Cal.long; (repeat' split) <;> omega
        · intro h; try exact absurd h (by decide)
          all_goals
            apply VC.seq
            apply VC.regt ΦL_ok [5, 10]; intro K' hK; dsimp only [List.take, List.drop, List.map, strip, stripG]; simp -implicitDefEqProofs only [go_sem, Nat.reduceLT, Nat.reduceAdd, Nat.reduceEqDiff, reduceIte, Nat.reduceMul, Nat.reduceSub, reduceCtorEq, Int.reduceNe, Int.reduceEq, ne_eq, Nat.reduceLeDiff]
            (repeat' first | (refine hK _ ?_; clear hK K') | apply And.intro | omega)
            all_goals
              apply VC.at
              · simp -implicitDefEqProofs only [go_sem, Nat.reduceLT, Nat.reduceAdd, Nat.reduceEqDiff, reduceIte, Nat.reduceMul, Nat.reduceSub, reduceCtorEq, Int.reduceNe, Int.reduceEq, ne_eq, Nat.reduceLeDiff]; (try simp (disch := omega) only [i64_in, tmodn, tdivn]); exact rfl
              first | (apply VC.condd; (focus (simp -implicitDefEqProofs only [go_sem, Nat.reduceLT, Nat.reduceAdd, Nat.reduceEqDiff, reduceIte, Nat.reduceMul, Nat.reduceSub, reduceCtorEq, Int.reduceNe, Int.reduceEq, ne_eq, Nat.reduceLeDiff]; with_reducible exact rfl))) | (apply VC.condn; (focus (simp -implicitDefEqProofs only [go_sem, Nat.reduceLT, Nat.reduceAdd, Nat.reduceEqDiff, reduceIte, Nat.reduceMul, Nat.reduceSub, reduceCtorEq, Int.reduceNe, Int.reduceEq, ne_eq, Nat.reduceLeDiff]; with_reducible exact rfl))) | (apply VC.condt; (focus (simp -implicitDefEqProofs only [go_sem, Nat.reduceLT, Nat.reduceAdd, Nat.reduceEqDiff, reduceIte, Nat.reduceMul, Nat.reduceSub, reduceCtorEq, Int.reduceNe, Int.reduceEq, ne_eq, Nat.reduceLeDiff]; with_reducible exact rfl))) | (apply VC.condb; (focus (simp -implicitDefEqProofs only [go_sem, Nat.reduceLT, Nat.reduceAdd, Nat.reduceEqDiff, reduceIte, Nat.reduceMul, Nat.reduceSub, reduceCtorEq, Int.reduceNe, Int.reduceEq, ne_eq, Nat.reduceLeDiff]; exact rfl)))
              · intro h; try exact absurd h (by decide)
                all_goals
                  apply VC.skip
                  refine thenK_n ?_
                  first | (apply VC.condd; (focus (simp -implicitDefEqProofs only [go_sem, Nat.reduceLT, Nat.reduceAdd, Nat.reduceEqDiff, reduceIte, Nat.reduceMul, Nat.reduceSub, reduceCtorEq, Int.reduceNe, Int.reduceEq, ne_eq, Nat.reduceLeDiff]; with_reducible exact rfl))) | (apply VC.condn; (focus (simp -implicitDefEqProofs only [go_sem, Nat.reduceLT, Nat.reduceAdd, Nat.reduceEqDiff, reduceIte, Nat.reduceMul, Nat.reduceSub, reduceCtorEq, Int.reduceNe, Int.reduceEq, ne_eq, Nat.reduceLeDiff]; with_reducible exact rfl))) | (apply VC.condt; (focus (simp -implicitDefEqProofs only [go_sem, Nat.reduceLT, Nat.reduceAdd, Nat.reduceEqDiff, reduceIte, Nat.reduceMul, Nat.reduceSub, reduceCtorEq, Int.reduceNe, Int.reduceEq, ne_eq, Nat.reduceLeDiff]; with_reducible exact rfl))) | (apply VC.condb; (focus (simp -implicitDefEqProofs only [go_sem, Nat.reduceLT, Nat.reduceAdd, Nat.reduceEqDiff, reduceIte, Nat.reduceMul, Nat.reduceSub, reduceCtorEq, Int.reduceNe, Int.reduceEq, ne_eq, Nat.reduceLeDiff]; exact rfl)))
                  · intro h; try exact absurd h (by decide)
                    all_goals
                      apply VC.regt ΦL_ok [4]; intro K' hK; dsimp only [List.take, List.drop, List.map, strip, stripG]; simp -implicitDefEqProofs only [go_sem, Nat.reduceLT, Nat.reduceAdd, Nat.reduceEqDiff, reduceIte, Nat.reduceMul, Nat.reduceSub, reduceCtorEq, Int.reduceNe, Int.reduceEq, ne_eq, Nat.reduceLeDiff]
                      (repeat' first | (refine hK _ ?_; clear hK K') | apply And.intro | omega)
                      all_goals
                        apply VC.at
                        · simp -implicitDefEqProofs only [go_sem, Nat.reduceLT, Nat.reduceAdd, Nat.reduceEqDiff, reduceIte, Nat.reduceMul, Nat.reduceSub, reduceCtorEq, Int.reduceNe, Int.reduceEq, ne_eq, Nat.reduceLeDiff]; (try simp (disch := omega) only [i64_in, tmodn, tdivn]); exact rfl
                        apply VC.ret
                        refine blockK_r ?_
                        refine thenK_r ?_
                        simp -implicitDefEqProofs only [go_sem, Nat.reduceLT, Nat.reduceAdd, Nat.reduceEqDiff, reduceIte, Nat.reduceMul, Nat.reduceSub, reduceCtorEq, Int.reduceNe, Int.reduceEq, ne_eq, Nat.reduceLeDiff]
                        try simp only [List.cons.injEq, Vm.Data.agg.injEq, Vm.Data.int.injEq, Vm.Data.bool.injEq, true_and, and_true]
                        (try simp only [decide_eq_true_eq, decide_eq_false_iff_not, Bool.not_eq_true', Bool.not_eq_false', Bool.not_eq_eq_eq_not, Bool.not_true, Bool.not_false, Decidable.not_not, ne_eq] at *)
                        unfold Cal.long; (repeat' split) <;> omega
                  · intro h; try exact absurd h (by decide)
                    all_goals
                      apply VC.skip
                      refine blockK_n ?_
                      refine thenK_n ?_
                      apply VC.regt ΦL_ok [4]; intro K' hK; dsimp only [List.take, List.drop, List.map, strip, stripG]; simp -implicitDefEqProofs only [go_sem, Nat.reduceLT, Nat.reduceAdd, Nat.reduceEqDiff, reduceIte, Nat.reduceMul, Nat.reduceSub, reduceCtorEq, Int.reduceNe, Int.reduceEq, ne_eq, Nat.reduceLeDiff]
                      (repeat' first | (refine hK _ ?_; clear hK K') | apply And.intro | omega)
                      all_goals
                        apply VC.at
                        · simp -implicitDefEqProofs only [go_sem, Nat.reduceLT, Nat.reduceAdd, Nat.reduceEqDiff, reduceIte, Nat.reduceMul, Nat.reduceSub, reduceCtorEq, Int.reduceNe, Int.reduceEq, ne_eq, Nat.reduceLeDiff]; (try simp (disch := omega) only [i64_in, tmodn, tdivn]); exact rfl
                        apply VC.ret
                        simp -implicitDefEqProofs only [go_sem, Nat.reduceLT, Nat.reduceAdd, Nat.reduceEqDiff, reduceIte, Nat.reduceMul, Nat.reduceSub, reduceCtorEq, Int.reduceNe, Int.reduceEq, ne_eq, Nat.reduceLeDiff]
                        try simp only [List.cons.injEq, Vm.Data.agg.injEq, Vm.Data.int.injEq, Vm.Data.bool.injEq, true_and, and_true]
                        (try simp only [decide_eq_true_eq, decide_eq_false_iff_not, Bool.not_eq_true', Bool.not_eq_false', Bool.not_eq_eq_eq_not, Bool.not_true, Bool.not_false, Decidable.not_not, ne_eq] at *)
                        unfold Cal.long; (repeat' split) <;> omega
              · intro h; try exact absurd h (by decide)
                all_goals
                  apply VC.regt ΦL_ok [5, 10]; intro K' hK; dsimp only [List.take, List.drop, List.map, strip, stripG]; simp -implicitDefEqProofs only [go_sem, Nat.reduceLT, Nat.reduceAdd, Nat.reduceEqDiff, reduceIte, Nat.reduceMul, Nat.reduceSub, reduceCtorEq, Int.reduceNe, Int.reduceEq, ne_eq, Nat.reduceLeDiff]
                  (repeat' first | (refine hK _ ?_; clear hK K') | apply And.intro | omega)
                  all_goals
                    apply VC.at
                    · simp -implicitDefEqProofs only [go_sem, Nat.reduceLT, Nat.reduceAdd, Nat.reduceEqDiff, reduceIte, Nat.reduceMul, Nat.reduceSub, reduceCtorEq, Int.reduceNe, Int.reduceEq, ne_eq, Nat.reduceLeDiff]; (try simp (disch := omega) only [i64_in, tmodn, tdivn]); exact rfl
                    first | (apply VC.condd; (focus (simp -implicitDefEqProofs only [go_sem, Nat.reduceLT, Nat.reduceAdd, Nat.reduceEqDiff, reduceIte, Nat.reduceMul, Nat.reduceSub, reduceCtorEq, Int.reduceNe, Int.reduceEq, ne_eq, Nat.reduceLeDiff]; with_reducible exact rfl))) | (apply VC.condn; (focus (simp -implicitDefEqProofs only [go_sem, Nat.reduceLT, Nat.reduceAdd, Nat.reduceEqDiff, reduceIte, Nat.reduceMul, Nat.reduceSub, reduceCtorEq, Int.reduceNe, Int.reduceEq, ne_eq, Nat.reduceLeDiff]; with_reducible exact rfl))) | (apply VC.condt; (focus (simp -implicitDefEqProofs only [go_sem, Nat.reduceLT, Nat.reduceAdd, Nat.reduceEqDiff, reduceIte, Nat.reduceMul, Nat.reduceSub, reduceCtorEq, Int.reduceNe, Int.reduceEq, ne_eq, Nat.reduceLeDiff]; with_reducible exact rfl))) | (apply VC.condb; (focus (simp -implicitDefEqProofs only [go_sem, Nat.reduceLT, Nat.reduceAdd, Nat.reduceEqDiff, reduceIte, Nat.reduceMul, Nat.reduceSub, reduceCtorEq, Int.reduceNe, Int.reduceEq, ne_eq, Nat.reduceLeDiff]; exact rfl)))
                    · intro h; try exact absurd h (by decide)
                      all_goals
                        apply VC.skip
                        refine thenK_n ?_
                        first | (apply VC.condd; (focus (simp -implicitDefEqProofs only [go_sem, Nat.reduceLT, Nat.reduceAdd, Nat.reduceEqDiff, reduceIte, Nat.reduceMul, Nat.reduceSub, reduceCtorEq, Int.reduceNe, Int.reduceEq, ne_eq, Nat.reduceLeDiff]; with_reducible exact rfl))) | (apply VC.condn; (focus (simp -implicitDefEqProofs only [go_sem, Nat.reduceLT, Nat.reduceAdd, Nat.reduceEqDiff, reduceIte, Nat.reduceMul, Nat.reduceSub, reduceCtorEq, Int.reduceNe, Int.reduceEq, ne_eq, Nat.reduceLeDiff]; with_reducible exact rfl))) | (apply VC.condt; (focus (simp -implicitDefEqProofs only [go_sem, Nat.reduceLT, Nat.reduceAdd, Nat.reduceEqDiff, reduceIte, Nat.reduceMul, Nat.reduceSub, reduceCtorEq, Int.reduceNe, Int.reduceEq, ne_eq, Nat.reduceLeDiff]; with_reducible exact rfl))) | (apply VC.condb; (focus (simp -implicitDefEqProofs only [go_sem, Nat.reduceLT, Nat.reduceAdd, Nat.reduceEqDiff, reduceIte, Nat.reduceMul, Nat.reduceSub, reduceCtorEq, Int.reduceNe, Int.reduceEq, ne_eq, Nat.reduceLeDiff]; exact rfl)))
                        · intro h; try exact absurd h (by decide)
                          all_goals
                            apply VC.regt ΦL_ok [4]; intro K' hK; dsimp only [List.take, List.drop, List.map, strip, stripG]; simp -implicitDefEqProofs only [go_sem, Nat.reduceLT, Nat.reduceAdd, Nat.reduceEqDiff, reduceIte, Nat.reduceMul, Nat.reduceSub, reduceCtorEq, Int.reduceNe, Int.reduceEq, ne_eq, Nat.reduceLeDiff]
                            (repeat' first | (refine hK _ ?_; clear hK K') | apply And.intro | omega)
                            all_goals
                              apply VC.at
                              · simp -implicitDefEqProofs only [go_sem, Nat.reduceLT, Nat.reduceAdd, Nat.reduceEqDiff, reduceIte, Nat.reduceMul, Nat.reduceSub, reduceCtorEq, Int.reduceNe, Int.reduceEq, ne_eq, Nat.reduceLeDiff]; (try simp (disch := omega) only [i64_in, tmodn, tdivn]); exact rfl
                              apply VC.ret
                              refine blockK_r ?_
                              refine thenK_r ?_
                              simp -implicitDefEqProofs only [go_sem, Nat.reduceLT, Nat.reduceAdd, Nat.reduceEqDiff, reduceIte, Nat.reduceMul, Nat.reduceSub, reduceCtorEq, Int.reduceNe, Int.reduceEq, ne_eq, Nat.reduceLeDiff]
                              try simp only [List.cons.injEq, Vm.Data.agg.injEq, Vm.Data.int.injEq, Vm.Data.bool.injEq, true_and, and_true]
                              (try simp only [decide_eq_true_eq, decide_eq_false_iff_not, Bool.not_eq_true', Bool.not_eq_false', Bool.not_eq_eq_eq_not, Bool.not_true, Bool.not_false, Decidable.not_not, ne_eq] at *)
                              unfold Cal.long; (repeat' split) <;> omega
                        · intro h; try exact absurd h (by decide)
                          all_goals
                            apply VC.skip
                            refine blockK_n ?_
                            refine thenK_n ?_
                            apply VC.regt ΦL_ok [4]; intro K' hK; dsimp only [List.take, List.drop, List.map, strip, stripG]; simp -implicitDefEqProofs only [go_sem, Nat.reduceLT, Nat.reduceAdd, Nat.reduceEqDiff, reduceIte, Nat.reduceMul, Nat.reduceSub, reduceCtorEq, Int.reduceNe, Int.reduceEq, ne_eq, Nat.reduceLeDiff]
                            (repeat' first | (refine hK _ ?_; clear hK K') | apply And.intro | omega)
                            all_goals
                              apply VC.at
                              · simp -implicitDefEqProofs only [go_sem, Nat.reduceLT, Nat.reduceAdd, Nat.reduceEqDiff, reduceIte, Nat.reduceMul, Nat.reduceSub, reduceCtorEq, Int.reduceNe, Int.reduceEq, ne_eq, Nat.reduceLeDiff]; (try simp (disch := omega) only [i64_in, tmodn, tdivn]); exact rfl
                              apply VC.ret
                              simp -implicitDefEqProofs only [go_sem, Nat.reduceLT, Nat.reduceAdd, Nat.reduceEqDiff, reduceIte, Nat.reduceMul, Nat.reduceSub, reduceCtorEq, Int.reduceNe, Int.reduceEq, ne_eq, Nat.reduceLeDiff]
                              try simp only [List.cons.injEq, Vm.Data.agg.injEq, Vm.Data.int.injEq, Vm.Data.bool.injEq, true_and, and_true]
                              (try simp only [decide_eq_true_eq, decide_eq_false_iff_not, Bool.not_eq_true', Bool.not_eq_false', Bool.not_eq_eq_eq_not, Bool.not_true, Bool.not_false, Decidable.not_not, ne_eq] at *)
                              unfold Cal.long; (repeat' split) <;> omega
                    · intro h; try exact absurd h (by decide)
                      all_goals
                        apply VC.regt ΦL_ok [5, 10]; intro K' hK; dsimp only [List.take, List.drop, List.map, strip, stripG]; simp -implicitDefEqProofs only [go_sem, Nat.reduceLT, Nat.reduceAdd, Nat.reduceEqDiff, reduceIte, Nat.reduceMul, Nat.reduceSub, reduceCtorEq, Int.reduceNe, Int.reduceEq, ne_eq, Nat.reduceLeDiff]
                        (repeat' first | (refine hK _ ?_; clear hK K') | apply And.intro | omega)
                        all_goals
                          apply VC.at
                          · simp -implicitDefEqProofs only [go_sem, Nat.reduceLT, Nat.reduceAdd, Nat.reduceEqDiff, reduceIte, Nat.reduceMul, Nat.reduceSub, reduceCtorEq, Int.reduceNe, Int.reduceEq, ne_eq, Nat.reduceLeDiff]; (try simp (disch := omega) only [i64_in, tmodn, tdivn]); exact rfl
                          first | (apply VC.condd; (focus (simp -implicitDefEqProofs only [go_sem, Nat.reduceLT, Nat.reduceAdd, Nat.reduceEqDiff, reduceIte, Nat.reduceMul, Nat.reduceSub, reduceCtorEq, Int.reduceNe, Int.reduceEq, ne_eq, Nat.reduceLeDiff]; with_reducible exact rfl))) | (apply VC.condn; (focus (simp -implicitDefEqProofs only [go_sem, Nat.reduceLT, Nat.reduceAdd, Nat.reduceEqDiff, reduceIte, Nat.reduceMul, Nat.reduceSub, reduceCtorEq, Int.reduceNe, Int.reduceEq, ne_eq, Nat.reduceLeDiff]; with_reducible exact rfl))) | (apply VC.condt; (focus (simp -implicitDefEqProofs only [go_sem, Nat.reduceLT, Nat.reduceAdd, Nat.reduceEqDiff, reduceIte, Nat.reduceMul, Nat.reduceSub, reduceCtorEq, Int.reduceNe, Int.reduceEq, ne_eq, Nat.reduceLeDiff]; with_reducible exact rfl))) | (apply VC.condb; (focus (simp -implicitDefEqProofs only [go_sem, Nat.reduceLT, Nat.reduceAdd, Nat.reduceEqDiff, reduceIte, Nat.reduceMul, Nat.reduceSub, reduceCtorEq, Int.reduceNe, Int.reduceEq, ne_eq, Nat.reduceLeDiff]; exact rfl)))
                          · intro h; try exact absurd h (by decide)
                            all_goals
                              apply VC.skip
                              refine thenK_n ?_
                              first | (apply VC.condd; (focus (simp -implicitDefEqProofs only [go_sem, Nat.reduceLT, Nat.reduceAdd, Nat.reduceEqDiff, reduceIte, Nat.reduceMul, Nat.reduceSub, reduceCtorEq, Int.reduceNe, Int.reduceEq, ne_eq, Nat.reduceLeDiff]; with_reducible exact rfl))) | (apply VC.condn; (focus (simp -implicitDefEqProofs only [go_sem, Nat.reduceLT, Nat.reduceAdd, Nat.reduceEqDiff, reduceIte, Nat.reduceMul, Nat.reduceSub, reduceCtorEq, Int.reduceNe, Int.reduceEq, ne_eq, Nat.reduceLeDiff]; with_reducible exact rfl))) | (apply VC.condt; (focus (simp -implicitDefEqProofs only [go_sem, Nat.reduceLT, Nat.reduceAdd, Nat.reduceEqDiff, reduceIte, Nat.reduceMul, Nat.reduceSub, reduceCtorEq, Int.reduceNe, Int.reduceEq, ne_eq, Nat.reduceLeDiff]; with_reducible exact rfl))) | (apply VC.condb; (focus (simp -implicitDefEqProofs only [go_sem, Nat.reduceLT, Nat.reduceAdd, Nat.reduceEqDiff, reduceIte, Nat.reduceMul, Nat.reduceSub, reduceCtorEq, Int.reduceNe, Int.reduceEq, ne_eq, Nat.reduceLeDiff]; exact rfl)))
                              · intro h; try exact absurd h (by decide)
                                all_goals
                                  apply VC.regt ΦL_ok [4]; intro K' hK; dsimp only [List.take, List.drop, List.map, strip, stripG]; simp -implicitDefEqProofs only [go_sem, Nat.reduceLT, Nat.reduceAdd, Nat.reduceEqDiff, reduceIte, Nat.reduceMul, Nat.reduceSub, reduceCtorEq, Int.reduceNe, Int.reduceEq, ne_eq, Nat.reduceLeDiff]
                                  (repeat' first | (refine hK _ ?_; clear hK K') | apply And.intro | omega)
                                  all_goals
                                    apply VC.at
                                    · simp -implicitDefEqProofs only [go_sem, Nat.reduceLT, Nat.reduceAdd, Nat.reduceEqDiff, reduceIte, Nat.reduceMul, Nat.reduceSub, reduceCtorEq, Int.reduceNe, Int.reduceEq, ne_eq, Nat.reduceLeDiff]; (try simp (disch := omega) only [i64_in, tmodn, tdivn]); exact rfl
                                    apply VC.ret
                                    refine blockK_r ?_
                                    refine thenK_r ?_
                                    simp -implicitDefEqProofs only [go_sem, Nat.reduceLT, Nat.reduceAdd, Nat.reduceEqDiff, reduceIte, Nat.reduceMul, Nat.reduceSub, reduceCtorEq, Int.reduceNe, Int.reduceEq, ne_eq, Nat.reduceLeDiff]
                                    try simp only [List.cons.injEq, Vm.Data.agg.injEq, Vm.Data.int.injEq, Vm.Data.bool.injEq, true_and, and_true]
                                    (try simp only [decide_eq_true_eq, decide_eq_false_iff_not, Bool.not_eq_true', Bool.not_eq_false', Bool.not_eq_eq_eq_not, Bool.not_true, Bool.not_false, Decidable.not_not, ne_eq] at *)
                                    unfold Cal.long; (repeat' split) <;> omega
                              · intro h; try exact absurd h (by decide)
                                all_goals
                                  apply VC.skip
                                  refine blockK_n ?_
                                  refine thenK_n ?_
                                  apply VC.regt ΦL_ok [4]; intro K' hK; dsimp only [List.take, List.drop, List.map, strip, stripG]; simp -implicitDefEqProofs only [go_sem, Nat.reduceLT, Nat.reduceAdd, Nat.reduceEqDiff, reduceIte, Nat.reduceMul, Nat.reduceSub, reduceCtorEq, Int.reduceNe, Int.reduceEq, ne_eq, Nat.reduceLeDiff]
                                  (repeat' first | (refine hK _ ?_; clear hK K') | apply And.intro | omega)
                                  all_goals
                                    apply VC.at
                                    · simp -implicitDefEqProofs only [go_sem, Nat.reduceLT, Nat.reduceAdd, Nat.reduceEqDiff, reduceIte, Nat.reduceMul, Nat.reduceSub, reduceCtorEq, Int.reduceNe, Int.reduceEq, ne_eq, Nat.reduceLeDiff]; (try simp (disch := omega) only [i64_in, tmodn, tdivn]); exact rfl
                                    apply VC.ret
                                    simp -implicitDefEqProofs only [go_sem, Nat.reduceLT, Nat.reduceAdd, Nat.reduceEqDiff, reduceIte, Nat.reduceMul, Nat.reduceSub, reduceCtorEq, Int.reduceNe, Int.reduceEq, ne_eq, Nat.reduceLeDiff]
                                    try simp only [List.cons.injEq, Vm.Data.agg.injEq, Vm.Data.int.injEq, Vm.Data.bool.injEq, true_and, and_true]
                                    (try simp only [decide_eq_true_eq, decide_eq_false_iff_not, Bool.not_eq_true', Bool.not_eq_false', Bool.not_eq_eq_eq_not, Bool.not_true, Bool.not_false, Decidable.not_not, ne_eq] at *)
                                    unfold Cal.long; (repeat' split) <;> omega
                          · intro h; try exact absurd h (by decide)
                            all_goals
                              apply VC.regLast ΦL_ok; intro K' hK; dsimp only [List.take, List.drop, List.map, strip, stripG]; simp -implicitDefEqProofs only [go_sem, Nat.reduceLT, Nat.reduceAdd, Nat.reduceEqDiff, reduceIte, Nat.reduceMul, Nat.reduceSub, reduceCtorEq, Int.reduceNe, Int.reduceEq, ne_eq, Nat.reduceLeDiff]
                              (repeat' first | (refine hK _ ?_; clear hK K') | apply And.intro | omega)
                              all_goals
                                refine thenK_n ?_
                                first | (apply VC.condd; (focus (simp -implicitDefEqProofs only [go_sem, Nat.reduceLT, Nat.reduceAdd, Nat.reduceEqDiff, reduceIte, Nat.reduceMul, Nat.reduceSub, reduceCtorEq, Int.reduceNe, Int.reduceEq, ne_eq, Nat.reduceLeDiff]; with_reducible exact rfl))) | (apply VC.condn; (focus (simp -implicitDefEqProofs only [go_sem, Nat.reduceLT, Nat.reduceAdd, Nat.reduceEqDiff, reduceIte, Nat.reduceMul, Nat.reduceSub, reduceCtorEq, Int.reduceNe, Int.reduceEq, ne_eq, Nat.reduceLeDiff]; with_reducible exact rfl))) | (apply VC.condt; (focus (simp -implicitDefEqProofs only [go_sem, Nat.reduceLT, Nat.reduceAdd, Nat.reduceEqDiff, reduceIte, Nat.reduceMul, Nat.reduceSub, reduceCtorEq, Int.reduceNe, Int.reduceEq, ne_eq, Nat.reduceLeDiff]; with_reducible exact rfl))) | (apply VC.condb; (focus (simp -implicitDefEqProofs only [go_sem, Nat.reduceLT, Nat.reduceAdd, Nat.reduceEqDiff, reduceIte, Nat.reduceMul, Nat.reduceSub, reduceCtorEq, Int.reduceNe, Int.reduceEq, ne_eq, Nat.reduceLeDiff]; exact rfl)))
                                · intro h; try exact absurd h (by decide)
                                  all_goals
                                    apply VC.regt ΦL_ok [4]; intro K' hK; dsimp only [List.take, List.drop, List.map, strip, stripG]; simp -implicitDefEqProofs only [go_sem, Nat.reduceLT, Nat.reduceAdd, Nat.reduceEqDiff, reduceIte, Nat.reduceMul, Nat.reduceSub, reduceCtorEq, Int.reduceNe, Int.reduceEq, ne_eq, Nat.reduceLeDiff]
                                    (repeat' first | (refine hK _ ?_; clear hK K') | apply And.intro | omega)
                                    all_goals
                                      apply VC.at
                                      · simp -implicitDefEqProofs only [go_sem, Nat.reduceLT, Nat.reduceAdd, Nat.reduceEqDiff, reduceIte, Nat.reduceMul, Nat.reduceSub, reduceCtorEq, Int.reduceNe, Int.reduceEq, ne_eq, Nat.reduceLeDiff]; (try simp (disch := omega) only [i64_in, tmodn, tdivn]); exact rfl
                                      apply VC.ret
                                      refine blockK_r ?_
                                      refine thenK_r ?_
                                      simp -implicitDefEqProofs only [go_sem, Nat.reduceLT, Nat.reduceAdd, Nat.reduceEqDiff, reduceIte, Nat.reduceMul, Nat.reduceSub, reduceCtorEq, Int.reduceNe, Int.reduceEq, ne_eq, Nat.reduceLeDiff]
                                      try simp only [List.cons.injEq, Vm.Data.agg.injEq, Vm.Data.int.injEq, Vm.Data.bool.injEq, true_and, and_true]
                                      (try simp only [decide_eq_true_eq, decide_eq_false_iff_not, Bool.not_eq_true', Bool.not_eq_false', Bool.not_eq_eq_eq_not, Bool.not_true, Bool.not_false, Decidable.not_not, ne_eq] at *)
                                      unfold Cal.long; (repeat' split) <;> omega
                                · intro h; try exact absurd h (by decide)
                                  all_goals
                                    apply VC.skip
                                    refine blockK_n ?_
                                    refine thenK_n ?_
                                    apply VC.regt ΦL_ok [4]; intro K' hK; dsimp only [List.take, List.drop, List.map, strip, stripG]; simp -implicitDefEqProofs only [go_sem, Nat.reduceLT, Nat.reduceAdd, Nat.reduceEqDiff, reduceIte, Nat.reduceMul, Nat.reduceSub, reduceCtorEq, Int.reduceNe, Int.reduceEq, ne_eq, Nat.reduceLeDiff]
                                    (repeat' first | (refine hK _ ?_; clear hK K') | apply And.intro | omega)
                                    all_goals
                                      apply VC.at
                                      · simp -implicitDefEqProofs only [go_sem, Nat.reduceLT, Nat.reduceAdd, Nat.reduceEqDiff, reduceIte, Nat.reduceMul, Nat.reduceSub, reduceCtorEq, Int.reduceNe, Int.reduceEq, ne_eq, Nat.reduceLeDiff]; (try simp (disch := omega) only [i64_in, tmodn, tdivn]); exact rfl
                                      apply VC.ret
                                      simp -implicitDefEqProofs only [go_sem, Nat.reduceLT, Nat.reduceAdd, Nat.reduceEqDiff, reduceIte, Nat.reduceMul, Nat.reduceSub, reduceCtorEq, Int.reduceNe, Int.reduceEq, ne_eq, Nat.reduceLeDiff]
                                      try simp only [List.cons.injEq, Vm.Data.agg.injEq, Vm.Data.int.injEq, Vm.Data.bool.injEq, true_and, and_true]
                                      (try simp only [decide_eq_true_eq, decide_eq_false_iff_not, Bool.not_eq_true', Bool.not_eq_false', Bool.not_eq_eq_eq_not, Bool.not_true, Bool.not_false, Decidable.not_not, ne_eq] at *)
                                      unfold Cal.long; (repeat' split) <;> omega
end Go.Proofs.Ytfbodageccednaa.Hd
namespace Go.Proofs.Ytfbodageccednaa.Hd
open Go Go.RowKit Go.Proofs.Ytfbodageccednaa.Vm Go.IntWalk
set_option maxRecDepth 100000
set_option maxHeartbeats 4000000
noncomputable def ΦI : Fns := tab [(17, atF), (14, farF)]
theorem ΦI_ok : Sound E ΦI := sound_cons (by kernel_rfl) at_ok (sound_cons (by kernel_rfl) far_ok (sound_nil))
@[go_sem] theorem ΦI_17 : ΦI 17 = some atF := rfl
@[go_sem] theorem ΦI_14 : ΦI 14 = some farF := rfl
def isF : PFn := ⟨fun ds => match ds with | [.agg [.int .i64 y, .int .i64 m, .int .i64 d]] => True | _ => False, fun ds => match ds with | [.agg [.int .i64 y, .int .i64 m, .int .i64 d]] => [.bool (dateOk y m d)] | _ => []⟩
@[go_sem] theorem is_pre (y m d : Int) : isF.pre [.agg [.int .i64 y, .int .i64 m, .int .i64 d]] = (True) := rfl
@[go_sem] theorem is_res (y m d : Int) : isF.res [.agg [.int .i64 y, .int .i64 m, .int .i64 d]] = [.bool (dateOk y m d)] := rfl
theorem is_ok : Pure E 13 isF := by
  apply Pure.of_body (rs := [.tmp 2]) (n := 38) Try.func13 rfl rfl rfl
  intro ds hds
  unfold isF at hds
  dsimp only at hds
  split at hds
  case h_2 => exact hds.elim
  rename_i y m d
  skip
  refine ⟨Nat.le_of_ble_eq_true rfl, ?_⟩
  show VC E none _ (pureSt 38 _) _
  apply VC.regt ΦI_ok [1]; intro K' hK; dsimp only [List.take, List.drop, List.map, strip, stripG]; simp -implicitDefEqProofs only [go_sem, Nat.reduceLT, Nat.reduceAdd, Nat.reduceEqDiff, reduceIte, Nat.reduceMul, Nat.reduceSub, reduceCtorEq, Int.reduceNe, Int.reduceEq, ne_eq, Nat.reduceLeDiff]
  (repeat' first | (refine hK _ ?_; clear hK K') | apply And.intro | first | omega | exact (num_range31 _ _ _ (by omega) (by omega) (by omega) (by omega) (by omega) (by omega)).1 | exact (num_range31 _ _ _ (by omega) (by omega) (by omega) (by omega) (by omega) (by omega)).2)
  all_goals
    apply VC.at
    · simp -implicitDefEqProofs only [go_sem, Nat.reduceLT, Nat.reduceAdd, Nat.reduceEqDiff, reduceIte, Nat.reduceMul, Nat.reduceSub, reduceCtorEq, Int.reduceNe, Int.reduceEq, ne_eq, Nat.reduceLeDiff]; (try simp (disch := omega) only [i64_in, tmodn, tdivn]); exact rfl
    apply VC.draw1 ΦI_ok (by kernel_rfl) 36 (by kernel_rfl) (by kernel_rfl) [2]; intro L hL; dsimp only [List.take, List.drop, List.map, strip, stripG]; simp only [gtmp, List.getElem?_toArray, List.getElem?_cons_succ, List.getElem?_cons_zero, Option.bind_some]; simp -implicitDefEqProofs only [go_sem, Nat.reduceLT, Nat.reduceAdd, Nat.reduceEqDiff, reduceIte, Nat.reduceMul, Nat.reduceSub, reduceCtorEq, Int.reduceNe, Int.reduceEq, ne_eq, Nat.reduceLeDiff]
    (repeat' first | (refine hL _ ?_; intro K' hK; dsimp only [List.drop, List.map, strip, stripG]; simp -implicitDefEqProofs only [go_sem, Nat.reduceLT, Nat.reduceAdd, Nat.reduceEqDiff, reduceIte, Nat.reduceMul, Nat.reduceSub, reduceCtorEq, Int.reduceNe, Int.reduceEq, ne_eq, Nat.reduceLeDiff]; refine hK _ ?_; clear hK K' hL L) | (first | apply runB_splitD | apply runA_splitD | apply runB_split | apply runA_split) <;> intro _ <;> simp -implicitDefEqProofs only [go_sem, Nat.reduceLT, Nat.reduceAdd, Nat.reduceEqDiff, reduceIte, Nat.reduceMul, Nat.reduceSub, reduceCtorEq, Int.reduceNe, Int.reduceEq, ne_eq, Nat.reduceLeDiff] | apply And.intro | first | omega | exact (num_range31 _ _ _ (by omega) (by omega) (by omega) (by omega) (by omega) (by omega)).1 | exact (num_range31 _ _ _ (by omega) (by omega) (by omega) (by omega) (by omega) (by omega)).2)
    all_goals
      apply VC.at
      · simp -implicitDefEqProofs only [go_sem, Nat.reduceLT, Nat.reduceAdd, Nat.reduceEqDiff, reduceIte, Nat.reduceMul, Nat.reduceSub, reduceCtorEq, Int.reduceNe, Int.reduceEq, ne_eq, Nat.reduceLeDiff]; (try simp (disch := omega) only [i64_in, tmodn, tdivn]); exact rfl
      apply VC.ret
      simp -implicitDefEqProofs only [go_sem, Nat.reduceLT, Nat.reduceAdd, Nat.reduceEqDiff, reduceIte, Nat.reduceMul, Nat.reduceSub, reduceCtorEq, Int.reduceNe, Int.reduceEq, ne_eq, Nat.reduceLeDiff]
      try simp only [List.cons.injEq, Vm.Data.agg.injEq, Vm.Data.int.injEq, Vm.Data.bool.injEq, true_and, and_true]
      first | exact is_same _ _ _ (by omega) (by omega) (by omega) (by omega) (by omega) (by omega) | exact (is_none _ _ _ (by omega)).symm
end Go.Proofs.Ytfbodageccednaa.Hd
namespace Go.Proofs.Ytfbodageccednaa.Hd
open Go Go.RowKit Go.Proofs.Ytfbodageccednaa.Vm Go.IntWalk
set_option maxRecDepth 100000
set_option maxHeartbeats 4000000
noncomputable def ΦD : Fns := tab [(13, isF), (14, farF), (17, atF)]
theorem ΦD_ok : Sound E ΦD := sound_cons (by kernel_rfl) is_ok (sound_cons (by kernel_rfl) far_ok (sound_cons (by kernel_rfl) at_ok (sound_nil)))
@[go_sem] theorem ΦD_13 : ΦD 13 = some isF := rfl
@[go_sem] theorem ΦD_14 : ΦD 14 = some farF := rfl
@[go_sem] theorem ΦD_17 : ΦD 17 = some atF := rfl
def daysF : PFn := ⟨fun ds => match ds with | [.int .i64 y, .int .i64 m, .int .i64 d] => True | _ => False, fun ds => match ds with | [.int .i64 y, .int .i64 m, .int .i64 d] => [.int .i64 (daysA y m d), .int .i64 (daysE y m d)] | _ => []⟩
@[go_sem] theorem days_pre (y m d : Int) : daysF.pre [.int .i64 y, .int .i64 m, .int .i64 d] = (True) := rfl
@[go_sem] theorem days_res (y m d : Int) : daysF.res [.int .i64 y, .int .i64 m, .int .i64 d] = [.int .i64 (daysA y m d), .int .i64 (daysE y m d)] := rfl
theorem ok_range (y m d : Int) (h : dateOk y m d = true) : (1970 ≤ y ∧ y ≤ 9999) ∧ (1 ≤ m ∧ m ≤ 12) ∧ 1 ≤ d ∧ d ≤ 31 := by
  have := long_le y m
  simp only [dateOk, decide_eq_true_eq] at h; omega
theorem days_ok : Pure E 9 daysF := by
  apply Pure.of_body (rs := [.tmp 6, .tmp 7]) (n := 18) Try.func9 rfl rfl rfl
  intro ds hds
  unfold daysF at hds
  dsimp only at hds
  split at hds
  case h_2 => exact hds.elim
  rename_i y m d
  skip
  refine ⟨Nat.le_of_ble_eq_true rfl, ?_⟩
  show VC E none _ (pureSt 18 _) _
  apply VC.regt ΦD_ok [0, 1, 2]; intro K' hK; dsimp only [List.take, List.drop, List.map, strip, stripG]; simp -implicitDefEqProofs only [go_sem, Nat.reduceLT, Nat.reduceAdd, Nat.reduceEqDiff, reduceIte, Nat.reduceMul, Nat.reduceSub, reduceCtorEq, Int.reduceNe, Int.reduceEq, ne_eq, Nat.reduceLeDiff]
  (repeat' first | (refine hK _ ?_; clear hK K') | apply And.intro | omega)
  all_goals
    apply VC.at
    · simp -implicitDefEqProofs only [go_sem, Nat.reduceLT, Nat.reduceAdd, Nat.reduceEqDiff, reduceIte, Nat.reduceMul, Nat.reduceSub, reduceCtorEq, Int.reduceNe, Int.reduceEq, ne_eq, Nat.reduceLeDiff]; (try simp (disch := omega) only [i64_in, tmodn, tdivn]); exact rfl
    apply VC.regt ΦD_ok [8]; intro K' hK; dsimp only [List.take, List.drop, List.map, strip, stripG]; simp -implicitDefEqProofs only [go_sem, Nat.reduceLT, Nat.reduceAdd, Nat.reduceEqDiff, reduceIte, Nat.reduceMul, Nat.reduceSub, reduceCtorEq, Int.reduceNe, Int.reduceEq, ne_eq, Nat.reduceLeDiff]
    (repeat' first | (refine hK _ ?_; clear hK K') | apply And.intro | omega)
    all_goals
      apply VC.at
      · simp -implicitDefEqProofs only [go_sem, Nat.reduceLT, Nat.reduceAdd, Nat.reduceEqDiff, reduceIte, Nat.reduceMul, Nat.reduceSub, reduceCtorEq, Int.reduceNe, Int.reduceEq, ne_eq, Nat.reduceLeDiff]; (try simp (disch := omega) only [i64_in, tmodn, tdivn]); exact rfl
      apply VC.seq
      apply VC.regt ΦD_ok [8, 15]; intro K' hK; dsimp only [List.take, List.drop, List.map, strip, stripG]; simp -implicitDefEqProofs only [go_sem, Nat.reduceLT, Nat.reduceAdd, Nat.reduceEqDiff, reduceIte, Nat.reduceMul, Nat.reduceSub, reduceCtorEq, Int.reduceNe, Int.reduceEq, ne_eq, Nat.reduceLeDiff]
      (repeat' first | (refine hK _ ?_; clear hK K') | apply And.intro | omega)
      all_goals
        apply VC.at
        · simp -implicitDefEqProofs only [go_sem, Nat.reduceLT, Nat.reduceAdd, Nat.reduceEqDiff, reduceIte, Nat.reduceMul, Nat.reduceSub, reduceCtorEq, Int.reduceNe, Int.reduceEq, ne_eq, Nat.reduceLeDiff]; (try simp (disch := omega) only [i64_in, tmodn, tdivn]); exact rfl
        first | (apply VC.condd; (focus (simp -implicitDefEqProofs only [go_sem, Nat.reduceLT, Nat.reduceAdd, Nat.reduceEqDiff, reduceIte, Nat.reduceMul, Nat.reduceSub, reduceCtorEq, Int.reduceNe, Int.reduceEq, ne_eq, Nat.reduceLeDiff]; with_reducible exact rfl))) | (apply VC.condn; (focus (simp -implicitDefEqProofs only [go_sem, Nat.reduceLT, Nat.reduceAdd, Nat.reduceEqDiff, reduceIte, Nat.reduceMul, Nat.reduceSub, reduceCtorEq, Int.reduceNe, Int.reduceEq, ne_eq, Nat.reduceLeDiff]; with_reducible exact rfl))) | (apply VC.condt; (focus (simp -implicitDefEqProofs only [go_sem, Nat.reduceLT, Nat.reduceAdd, Nat.reduceEqDiff, reduceIte, Nat.reduceMul, Nat.reduceSub, reduceCtorEq, Int.reduceNe, Int.reduceEq, ne_eq, Nat.reduceLeDiff]; with_reducible exact rfl))) | (apply VC.condb; (focus (simp -implicitDefEqProofs only [go_sem, Nat.reduceLT, Nat.reduceAdd, Nat.reduceEqDiff, reduceIte, Nat.reduceMul, Nat.reduceSub, reduceCtorEq, Int.reduceNe, Int.reduceEq, ne_eq, Nat.reduceLeDiff]; exact rfl)))
        · intro h; try exact absurd h (by decide)
          all_goals
            apply VC.regt ΦD_ok [6, 7]; intro K' hK; dsimp only [List.take, List.drop, List.map, strip, stripG]; simp -implicitDefEqProofs only [go_sem, Nat.reduceLT, Nat.reduceAdd, Nat.reduceEqDiff, reduceIte, Nat.reduceMul, Nat.reduceSub, reduceCtorEq, Int.reduceNe, Int.reduceEq, ne_eq, Nat.reduceLeDiff]
            (repeat' first | (refine hK _ ?_; clear hK K') | apply And.intro | omega)
            all_goals
              apply VC.at
              · simp -implicitDefEqProofs only [go_sem, Nat.reduceLT, Nat.reduceAdd, Nat.reduceEqDiff, reduceIte, Nat.reduceMul, Nat.reduceSub, reduceCtorEq, Int.reduceNe, Int.reduceEq, ne_eq, Nat.reduceLeDiff]; (try simp (disch := omega) only [i64_in, tmodn, tdivn]); exact rfl
              apply VC.ret
              refine thenK_r ?_
              simp -implicitDefEqProofs only [go_sem, Nat.reduceLT, Nat.reduceAdd, Nat.reduceEqDiff, reduceIte, Nat.reduceMul, Nat.reduceSub, reduceCtorEq, Int.reduceNe, Int.reduceEq, ne_eq, Nat.reduceLeDiff]
              try simp only [List.cons.injEq, Vm.Data.agg.injEq, Vm.Data.int.injEq, Vm.Data.bool.injEq, true_and, and_true]
              unfold daysA daysE; simp [h]
        · intro h; try exact absurd h (by decide)
          all_goals
            apply VC.skip
            refine thenK_n ?_
            apply VC.regt ΦD_ok [6, 7]; intro K' hK; dsimp only [List.take, List.drop, List.map, strip, stripG]; simp -implicitDefEqProofs only [go_sem, Nat.reduceLT, Nat.reduceAdd, Nat.reduceEqDiff, reduceIte, Nat.reduceMul, Nat.reduceSub, reduceCtorEq, Int.reduceNe, Int.reduceEq, ne_eq, Nat.reduceLeDiff]
            have ok := ok_range y m d h
            (repeat' first | (refine hK _ ?_; clear hK K') | apply And.intro | omega)
            all_goals
              apply VC.at
              · simp -implicitDefEqProofs only [go_sem, Nat.reduceLT, Nat.reduceAdd, Nat.reduceEqDiff, reduceIte, Nat.reduceMul, Nat.reduceSub, reduceCtorEq, Int.reduceNe, Int.reduceEq, ne_eq, Nat.reduceLeDiff]; (try simp (disch := omega) only [i64_in, tmodn, tdivn]); exact rfl
              apply VC.ret
              simp -implicitDefEqProofs only [go_sem, Nat.reduceLT, Nat.reduceAdd, Nat.reduceEqDiff, reduceIte, Nat.reduceMul, Nat.reduceSub, reduceCtorEq, Int.reduceNe, Int.reduceEq, ne_eq, Nat.reduceLeDiff]
              try simp only [List.cons.injEq, Vm.Data.agg.injEq, Vm.Data.int.injEq, Vm.Data.bool.injEq, true_and, and_true]
              unfold daysA daysE; simp [h]
def dateF : PFn := ⟨fun ds => match ds with | [.int .i64 n] => True | _ => False, fun ds => match ds with | [.int .i64 n] => [.int .i64 (dateY n), .int .i64 (dateM n), .int .i64 (dateD n), .int .i64 (dateE n)] | _ => []⟩
@[go_sem] theorem date_pre (n : Int) : dateF.pre [.int .i64 n] = (True) := rfl
@[go_sem] theorem date_res (n : Int) : dateF.res [.int .i64 n] = [.int .i64 (dateY n), .int .i64 (dateM n), .int .i64 (dateD n), .int .i64 (dateE n)] := rfl
theorem date_ok : Pure E 11 dateF := by
  apply Pure.of_body (rs := [.tmp 2, .tmp 3, .tmp 4, .tmp 5]) (n := 21) Try.func11 rfl rfl rfl
  intro ds hds
  unfold dateF at hds
  dsimp only at hds
  split at hds
  case h_2 => exact hds.elim
  rename_i n
  skip
  refine ⟨Nat.le_of_ble_eq_true rfl, ?_⟩
  show VC E none _ (pureSt 21 _) _
  apply VC.regt ΦD_ok [0]; intro K' hK; dsimp only [List.take, List.drop, List.map, strip, stripG]; simp -implicitDefEqProofs only [go_sem, Nat.reduceLT, Nat.reduceAdd, Nat.reduceEqDiff, reduceIte, Nat.reduceMul, Nat.reduceSub, reduceCtorEq, Int.reduceNe, Int.reduceEq, ne_eq, Nat.reduceLeDiff]
  (repeat' first | (refine hK _ ?_; clear hK K') | apply And.intro | first | omega | ((try simp only [decide_eq_true_eq, decide_eq_false_iff_not, Bool.not_eq_true', Bool.not_eq_false', Bool.not_eq_eq_eq_not, Bool.not_true, Bool.not_false, Decidable.not_not, ne_eq] at *); omega))
  all_goals
    apply VC.at
    · simp -implicitDefEqProofs only [go_sem, Nat.reduceLT, Nat.reduceAdd, Nat.reduceEqDiff, reduceIte, Nat.reduceMul, Nat.reduceSub, reduceCtorEq, Int.reduceNe, Int.reduceEq, ne_eq, Nat.reduceLeDiff]; (try simp (disch := omega) only [i64_in, tmodn, tdivn]); exact rfl
    apply VC.seq
    apply VC.regt ΦD_ok [0, 12]; intro K' hK; dsimp only [List.take, List.drop, List.map, strip, stripG]; simp only [gtmp, List.getElem?_toArray, List.getElem?_cons_succ, List.getElem?_cons_zero, Option.bind_some]; simp -implicitDefEqProofs only [go_sem, Nat.reduceLT, Nat.reduceAdd, Nat.reduceEqDiff, reduceIte, Nat.reduceMul, Nat.reduceSub, reduceCtorEq, Int.reduceNe, Int.reduceEq, ne_eq, Nat.reduceLeDiff]
    (repeat' first | (refine hK _ ?_; clear hK K') | (first | apply goB_splitD | apply goA_splitD | apply goB_split | apply goA_split | apply goA_all) <;> intro _ <;> simp -implicitDefEqProofs only [go_sem, Nat.reduceLT, Nat.reduceAdd, Nat.reduceEqDiff, reduceIte, Nat.reduceMul, Nat.reduceSub, reduceCtorEq, Int.reduceNe, Int.reduceEq, ne_eq, Nat.reduceLeDiff] | apply And.intro | first | omega | ((try simp only [decide_eq_true_eq, decide_eq_false_iff_not, Bool.not_eq_true', Bool.not_eq_false', Bool.not_eq_eq_eq_not, Bool.not_true, Bool.not_false, Decidable.not_not, ne_eq] at *); omega))
    all_goals
      apply VC.at
      · simp -implicitDefEqProofs only [go_sem, Nat.reduceLT, Nat.reduceAdd, Nat.reduceEqDiff, reduceIte, Nat.reduceMul, Nat.reduceSub, reduceCtorEq, Int.reduceNe, Int.reduceEq, ne_eq, Nat.reduceLeDiff]; (try simp (disch := omega) only [i64_in, tmodn, tdivn]); exact rfl
      first | (apply VC.condd; (focus (simp -implicitDefEqProofs only [go_sem, Nat.reduceLT, Nat.reduceAdd, Nat.reduceEqDiff, reduceIte, Nat.reduceMul, Nat.reduceSub, reduceCtorEq, Int.reduceNe, Int.reduceEq, ne_eq, Nat.reduceLeDiff]; with_reducible exact rfl))) | (apply VC.condn; (focus (simp -implicitDefEqProofs only [go_sem, Nat.reduceLT, Nat.reduceAdd, Nat.reduceEqDiff, reduceIte, Nat.reduceMul, Nat.reduceSub, reduceCtorEq, Int.reduceNe, Int.reduceEq, ne_eq, Nat.reduceLeDiff]; with_reducible exact rfl))) | (apply VC.condt; (focus (simp -implicitDefEqProofs only [go_sem, Nat.reduceLT, Nat.reduceAdd, Nat.reduceEqDiff, reduceIte, Nat.reduceMul, Nat.reduceSub, reduceCtorEq, Int.reduceNe, Int.reduceEq, ne_eq, Nat.reduceLeDiff]; with_reducible exact rfl))) | (apply VC.condb; (focus (simp -implicitDefEqProofs only [go_sem, Nat.reduceLT, Nat.reduceAdd, Nat.reduceEqDiff, reduceIte, Nat.reduceMul, Nat.reduceSub, reduceCtorEq, Int.reduceNe, Int.reduceEq, ne_eq, Nat.reduceLeDiff]; exact rfl)))
      · intro h; try exact absurd h (by decide)
        all_goals
          apply VC.regt ΦD_ok [2, 3, 4, 5]; intro K' hK; dsimp only [List.take, List.drop, List.map, strip, stripG]; simp -implicitDefEqProofs only [go_sem, Nat.reduceLT, Nat.reduceAdd, Nat.reduceEqDiff, reduceIte, Nat.reduceMul, Nat.reduceSub, reduceCtorEq, Int.reduceNe, Int.reduceEq, ne_eq, Nat.reduceLeDiff]
          (repeat' first | (refine hK _ ?_; clear hK K') | apply And.intro | first | omega | ((try simp only [decide_eq_true_eq, decide_eq_false_iff_not, Bool.not_eq_true', Bool.not_eq_false', Bool.not_eq_eq_eq_not, Bool.not_true, Bool.not_false, Decidable.not_not, ne_eq] at *); omega))
          all_goals
            apply VC.at
            · simp -implicitDefEqProofs only [go_sem, Nat.reduceLT, Nat.reduceAdd, Nat.reduceEqDiff, reduceIte, Nat.reduceMul, Nat.reduceSub, reduceCtorEq, Int.reduceNe, Int.reduceEq, ne_eq, Nat.reduceLeDiff]; (try simp (disch := omega) only [i64_in, tmodn, tdivn]); exact rfl
            apply VC.ret
            refine thenK_r ?_
            simp -implicitDefEqProofs only [go_sem, Nat.reduceLT, Nat.reduceAdd, Nat.reduceEqDiff, reduceIte, Nat.reduceMul, Nat.reduceSub, reduceCtorEq, Int.reduceNe, Int.reduceEq, ne_eq, Nat.reduceLeDiff]
            try simp only [List.cons.injEq, Vm.Data.agg.injEq, Vm.Data.int.injEq, Vm.Data.bool.injEq, true_and, and_true]
            (try simp only [decide_eq_true_eq, decide_eq_false_iff_not, Bool.not_eq_true', Bool.not_eq_false', Bool.not_eq_eq_eq_not, Bool.not_true, Bool.not_false, Decidable.not_not, ne_eq] at *)
            have e : dateIn n = true ∨ dateIn n = false := by cases dateIn n <;> simp
            unfold dateY dateM dateD dateE; rcases e with e | e <;> simp only [e] <;> simp only [dateIn, decide_eq_true_eq, decide_eq_false_iff_not] at e <;> first | omega | simp
      · intro h; try exact absurd h (by decide)
        all_goals
          apply VC.skip
          refine thenK_n ?_
          apply VC.regt ΦD_ok [6]; intro K' hK; dsimp only [List.take, List.drop, List.map, strip, stripG]; simp -implicitDefEqProofs only [go_sem, Nat.reduceLT, Nat.reduceAdd, Nat.reduceEqDiff, reduceIte, Nat.reduceMul, Nat.reduceSub, reduceCtorEq, Int.reduceNe, Int.reduceEq, ne_eq, Nat.reduceLeDiff]
          (repeat' first | (refine hK _ ?_; clear hK K') | apply And.intro | first | omega | ((try simp only [decide_eq_true_eq, decide_eq_false_iff_not, Bool.not_eq_true', Bool.not_eq_false', Bool.not_eq_eq_eq_not, Bool.not_true, Bool.not_false, Decidable.not_not, ne_eq] at *); omega))
          all_goals
            apply VC.at
            · simp -implicitDefEqProofs only [go_sem, Nat.reduceLT, Nat.reduceAdd, Nat.reduceEqDiff, reduceIte, Nat.reduceMul, Nat.reduceSub, reduceCtorEq, Int.reduceNe, Int.reduceEq, ne_eq, Nat.reduceLeDiff]; (try simp (disch := omega) only [i64_in, tmodn, tdivn]); exact rfl
            apply VC.draw1 ΦD_ok (by kernel_rfl) 10 (by kernel_rfl) (by kernel_rfl) [2, 3, 4, 5]; intro L hL; dsimp only [List.take, List.drop, List.map, strip, stripG]; simp -implicitDefEqProofs only [go_sem, Nat.reduceLT, Nat.reduceAdd, Nat.reduceEqDiff, reduceIte, Nat.reduceMul, Nat.reduceSub, reduceCtorEq, Int.reduceNe, Int.reduceEq, ne_eq, Nat.reduceLeDiff]
            (repeat' first | (refine hL _ ?_; intro K' hK; dsimp only [List.drop, List.map, strip, stripG]; simp -implicitDefEqProofs only [go_sem, Nat.reduceLT, Nat.reduceAdd, Nat.reduceEqDiff, reduceIte, Nat.reduceMul, Nat.reduceSub, reduceCtorEq, Int.reduceNe, Int.reduceEq, ne_eq, Nat.reduceLeDiff]; refine hK _ ?_; clear hK K' hL L) | apply And.intro | first | omega | ((try simp only [decide_eq_true_eq, decide_eq_false_iff_not, Bool.not_eq_true', Bool.not_eq_false', Bool.not_eq_eq_eq_not, Bool.not_true, Bool.not_false, Decidable.not_not, ne_eq] at *); omega))
            all_goals
              apply VC.at
              · simp -implicitDefEqProofs only [go_sem, Nat.reduceLT, Nat.reduceAdd, Nat.reduceEqDiff, reduceIte, Nat.reduceMul, Nat.reduceSub, reduceCtorEq, Int.reduceNe, Int.reduceEq, ne_eq, Nat.reduceLeDiff]; (try simp (disch := omega) only [i64_in, tmodn, tdivn]); exact rfl
              apply VC.ret
              simp -implicitDefEqProofs only [go_sem, Nat.reduceLT, Nat.reduceAdd, Nat.reduceEqDiff, reduceIte, Nat.reduceMul, Nat.reduceSub, reduceCtorEq, Int.reduceNe, Int.reduceEq, ne_eq, Nat.reduceLeDiff]
              try simp only [List.cons.injEq, Vm.Data.agg.injEq, Vm.Data.int.injEq, Vm.Data.bool.injEq, true_and, and_true]
              (try simp only [decide_eq_true_eq, decide_eq_false_iff_not, Bool.not_eq_true', Bool.not_eq_false', Bool.not_eq_eq_eq_not, Bool.not_true, Bool.not_false, Decidable.not_not, ne_eq] at *)
              have e : dateIn n = true ∨ dateIn n = false := by cases dateIn n <;> simp
              unfold dateY dateM dateD dateE; rcases e with e | e <;> simp only [e] <;> simp only [dateIn, decide_eq_true_eq, decide_eq_false_iff_not] at e <;> first | omega | simp
end Go.Proofs.Ytfbodageccednaa.Hd
namespace Go.Proofs.Ytfbodageccednaa.Hd
open Go Go.RowKit Go.Proofs.Ytfbodageccednaa.Vm Go.IntWalk
set_option maxRecDepth 100000
set_option maxHeartbeats 4000000
noncomputable def ΦR : Fns := tab [(15, longF), (16, yearF)]
theorem ΦR_ok : Sound E ΦR := sound_cons (by kernel_rfl) long_ok (sound_cons (by kernel_rfl) year_ok (sound_nil))
@[go_sem] theorem ΦR_15 : ΦR 15 = some longF := rfl
@[go_sem] theorem ΦR_16 : ΦR 16 = some yearF := rfl
theorem Y_rng (k : Int) (h : 1970 ≤ k) (h' : k ≤ 10000) : 0 ≤ Cal.Y k ∧ Cal.Y k ≤ 3000000 := by unfold Cal.Y; omega
theorem Y_1970 : Cal.Y 1970 = 0 := by decide
theorem Y_10000 : Cal.Y 10000 = 2932897 := by decide
theorem C_1 (y : Int) : Cal.C y 1 = 0 := by simp [Cal.C]
theorem C_rng (y m : Int) (h : 1 ≤ m) (h' : m ≤ 12) : 0 ≤ Cal.C y m ∧ Cal.C y m ≤ 366 := by
  have := Cal.lp_01 y
  unfold Cal.C; split <;> (try split) <;> omega
def rdaysF : PFn := ⟨fun ds => match ds with | [.int .i64 y, .int .i64 m, .int .i64 d] => -9223372036854775808 ≤ d | _ => False, fun ds => match ds with | [.int .i64 y, .int .i64 m, .int .i64 d] => [.int .i64 (daysA y m d), .int .i64 (daysE y m d)] | _ => []⟩
@[go_sem] theorem rdays_pre (y m d : Int) : rdaysF.pre [.int .i64 y, .int .i64 m, .int .i64 d] = (-9223372036854775808 ≤ d) := rfl
@[go_sem] theorem rdays_res (y m d : Int) : rdaysF.res [.int .i64 y, .int .i64 m, .int .i64 d] = [.int .i64 (daysA y m d), .int .i64 (daysE y m d)] := rfl
theorem rdays_ok : Pure E 10 rdaysF := by
  apply Pure.of_body (rs := [.tmp 6, .tmp 7]) (n := 58) Try.func10 rfl rfl rfl
  intro ds hds
  unfold rdaysF at hds
  dsimp only at hds
  split at hds
  case h_2 => exact hds.elim
  rename_i y m d
  have := long_le y m; have := Cal.lp_01 y
  refine ⟨Nat.le_of_ble_eq_true rfl, ?_⟩
  show VC E none _ (pureSt 58 _) _
  apply VC.regt ΦR_ok [0, 1, 2]; intro K' hK; dsimp only [List.take, List.drop, List.map, strip, stripG]; simp -implicitDefEqProofs only [go_sem, Nat.reduceLT, Nat.reduceAdd, Nat.reduceEqDiff, reduceIte, Nat.reduceMul, Nat.reduceSub, reduceCtorEq, Int.reduceNe, Int.reduceEq, ne_eq, Nat.reduceLeDiff]
  (repeat' first | (refine hK _ ?_; clear hK K') | apply And.intro | first | omega | ((try simp only [decide_eq_true_eq, decide_eq_false_iff_not, Bool.not_eq_true', Bool.not_eq_false', Bool.not_eq_eq_eq_not, Bool.not_true, Bool.not_false, Decidable.not_not, ne_eq] at *); omega))
  all_goals
    apply VC.at
    · simp -implicitDefEqProofs only [go_sem, Nat.reduceLT, Nat.reduceAdd, Nat.reduceEqDiff, reduceIte, Nat.reduceMul, Nat.reduceSub, reduceCtorEq, Int.reduceNe, Int.reduceEq, ne_eq, Nat.reduceLeDiff]; (try simp (disch := omega) only [i64_in, tmodn, tdivn]); exact rfl
    apply VC.seq
    apply VC.regt ΦR_ok [0, 1, 2, 35]; intro K' hK; dsimp only [List.take, List.drop, List.map, strip, stripG]; simp only [gtmp, List.getElem?_toArray, List.getElem?_cons_succ, List.getElem?_cons_zero, Option.bind_some]; simp -implicitDefEqProofs only [go_sem, Nat.reduceLT, Nat.reduceAdd, Nat.reduceEqDiff, reduceIte, Nat.reduceMul, Nat.reduceSub, reduceCtorEq, Int.reduceNe, Int.reduceEq, ne_eq, Nat.reduceLeDiff]
    (repeat' first | (refine hK _ ?_; clear hK K') | (first | apply goB_splitD | apply goA_splitD | apply goB_split | apply goA_split | apply goA_all) <;> intro _ <;> simp -implicitDefEqProofs only [go_sem, Nat.reduceLT, Nat.reduceAdd, Nat.reduceEqDiff, reduceIte, Nat.reduceMul, Nat.reduceSub, reduceCtorEq, Int.reduceNe, Int.reduceEq, ne_eq, Nat.reduceLeDiff] | apply And.intro | first | omega | ((try simp only [decide_eq_true_eq, decide_eq_false_iff_not, Bool.not_eq_true', Bool.not_eq_false', Bool.not_eq_eq_eq_not, Bool.not_true, Bool.not_false, Decidable.not_not, ne_eq] at *); omega))
    all_goals
      apply VC.at
      · simp -implicitDefEqProofs only [go_sem, Nat.reduceLT, Nat.reduceAdd, Nat.reduceEqDiff, reduceIte, Nat.reduceMul, Nat.reduceSub, reduceCtorEq, Int.reduceNe, Int.reduceEq, ne_eq, Nat.reduceLeDiff]; (try simp (disch := omega) only [i64_in, tmodn, tdivn]); exact rfl
      first | (apply VC.condd; (focus (simp -implicitDefEqProofs only [go_sem, Nat.reduceLT, Nat.reduceAdd, Nat.reduceEqDiff, reduceIte, Nat.reduceMul, Nat.reduceSub, reduceCtorEq, Int.reduceNe, Int.reduceEq, ne_eq, Nat.reduceLeDiff]; with_reducible exact rfl))) | (apply VC.condn; (focus (simp -implicitDefEqProofs only [go_sem, Nat.reduceLT, Nat.reduceAdd, Nat.reduceEqDiff, reduceIte, Nat.reduceMul, Nat.reduceSub, reduceCtorEq, Int.reduceNe, Int.reduceEq, ne_eq, Nat.reduceLeDiff]; with_reducible exact rfl))) | (apply VC.condt; (focus (simp -implicitDefEqProofs only [go_sem, Nat.reduceLT, Nat.reduceAdd, Nat.reduceEqDiff, reduceIte, Nat.reduceMul, Nat.reduceSub, reduceCtorEq, Int.reduceNe, Int.reduceEq, ne_eq, Nat.reduceLeDiff]; with_reducible exact rfl))) | (apply VC.condb; (focus (simp -implicitDefEqProofs only [go_sem, Nat.reduceLT, Nat.reduceAdd, Nat.reduceEqDiff, reduceIte, Nat.reduceMul, Nat.reduceSub, reduceCtorEq, Int.reduceNe, Int.reduceEq, ne_eq, Nat.reduceLeDiff]; exact rfl)))
      · intro h; try exact absurd h (by decide)
        all_goals
          apply VC.regt ΦR_ok [6, 7]; intro K' hK; dsimp only [List.take, List.drop, List.map, strip, stripG]; simp -implicitDefEqProofs only [go_sem, Nat.reduceLT, Nat.reduceAdd, Nat.reduceEqDiff, reduceIte, Nat.reduceMul, Nat.reduceSub, reduceCtorEq, Int.reduceNe, Int.reduceEq, ne_eq, Nat.reduceLeDiff]
          (repeat' first | (refine hK _ ?_; clear hK K') | apply And.intro | first | omega | ((try simp only [decide_eq_true_eq, decide_eq_false_iff_not, Bool.not_eq_true', Bool.not_eq_false', Bool.not_eq_eq_eq_not, Bool.not_true, Bool.not_false, Decidable.not_not, ne_eq] at *); omega))
          all_goals
            apply VC.at
            · simp -implicitDefEqProofs only [go_sem, Nat.reduceLT, Nat.reduceAdd, Nat.reduceEqDiff, reduceIte, Nat.reduceMul, Nat.reduceSub, reduceCtorEq, Int.reduceNe, Int.reduceEq, ne_eq, Nat.reduceLeDiff]; (try simp (disch := omega) only [i64_in, tmodn, tdivn]); exact rfl
            apply VC.ret
            refine thenK_r ?_
            simp -implicitDefEqProofs only [go_sem, Nat.reduceLT, Nat.reduceAdd, Nat.reduceEqDiff, reduceIte, Nat.reduceMul, Nat.reduceSub, reduceCtorEq, Int.reduceNe, Int.reduceEq, ne_eq, Nat.reduceLeDiff]
            try simp only [List.cons.injEq, Vm.Data.agg.injEq, Vm.Data.int.injEq, Vm.Data.bool.injEq, true_and, and_true]
            first
              | (have e : dateOk y m d = false := by (simp only [dateOk, decide_eq_false_iff_not]; omega)
                 simp [daysA, daysE, e]; done)
              | (have e : dateOk y m d = true := by (simp only [dateOk, decide_eq_true_eq]; omega)
                 simp only [daysA, daysE, e, if_true]; unfold Cal.num; have eq : q = m := by omega
                 rw [eq] at h6; simp; omega)
      · intro h; try exact absurd h (by decide)
        all_goals
          apply VC.skip
          refine thenK_n ?_
          apply VC.regt ΦR_ok [0, 1, 8]; intro K' hK; dsimp only [List.take, List.drop, List.map, strip, stripG]; simp -implicitDefEqProofs only [go_sem, Nat.reduceLT, Nat.reduceAdd, Nat.reduceEqDiff, reduceIte, Nat.reduceMul, Nat.reduceSub, reduceCtorEq, Int.reduceNe, Int.reduceEq, ne_eq, Nat.reduceLeDiff]
          (repeat' first | (refine hK _ ?_; clear hK K') | apply And.intro | first | omega | ((try simp only [decide_eq_true_eq, decide_eq_false_iff_not, Bool.not_eq_true', Bool.not_eq_false', Bool.not_eq_eq_eq_not, Bool.not_true, Bool.not_false, Decidable.not_not, ne_eq] at *); omega))
          all_goals
            apply VC.at
            · simp -implicitDefEqProofs only [go_sem, Nat.reduceLT, Nat.reduceAdd, Nat.reduceEqDiff, reduceIte, Nat.reduceMul, Nat.reduceSub, reduceCtorEq, Int.reduceNe, Int.reduceEq, ne_eq, Nat.reduceLeDiff]; (try simp (disch := omega) only [i64_in, tmodn, tdivn]); exact rfl
            apply VC.seq
            apply VC.regt ΦR_ok [0, 1, 8, 9]; intro K' hK; dsimp only [List.take, List.drop, List.map, strip, stripG]; simp -implicitDefEqProofs only [go_sem, Nat.reduceLT, Nat.reduceAdd, Nat.reduceEqDiff, reduceIte, Nat.reduceMul, Nat.reduceSub, reduceCtorEq, Int.reduceNe, Int.reduceEq, ne_eq, Nat.reduceLeDiff]
            (repeat' first | (refine hK _ ?_; clear hK K') | apply And.intro | first | omega | ((try simp only [decide_eq_true_eq, decide_eq_false_iff_not, Bool.not_eq_true', Bool.not_eq_false', Bool.not_eq_eq_eq_not, Bool.not_true, Bool.not_false, Decidable.not_not, ne_eq] at *); omega))
            all_goals
              apply VC.at
              · simp -implicitDefEqProofs only [go_sem, Nat.reduceLT, Nat.reduceAdd, Nat.reduceEqDiff, reduceIte, Nat.reduceMul, Nat.reduceSub, reduceCtorEq, Int.reduceNe, Int.reduceEq, ne_eq, Nat.reduceLeDiff]; (try simp (disch := omega) only [i64_in, tmodn, tdivn]); exact rfl
              apply VC.block
              refine VC.loopP (ι := Int × Int) [0, 1] (fun i => [(8, .dat (.int .i64 i.1)), (9, .dat (.int .i64 i.2))]) (fun _ => []) (fun i => 1970 ≤ i.2 ∧ i.2 ≤ y ∧ i.1 = d - 1 + Cal.Y i.2) (fun i => (y - i.2).toNat) (d - 1, 1970) ?_ ?_ ?_
              · dsimp only; have := Y_1970; omega
              · refine Ent.into ?_ rfl rfl rfl rfl; simp -implicitDefEqProofs only [go_sem, Nat.reduceLT, Nat.reduceAdd, Nat.reduceEqDiff, reduceIte, Nat.reduceMul, Nat.reduceSub, reduceCtorEq, Int.reduceNe, Int.reduceEq, ne_eq, Nat.reduceLeDiff]
              · rintro ⟨n, k⟩ hp; dsimp only at hp; obtain ⟨h1, h2, h3⟩ := hp; have := Y_rng k h1 (by omega); have := Cal.Y_succ k; have := Cal.lp_01 k
                apply VC.at
                · simp -implicitDefEqProofs only [go_sem, Nat.reduceLT, Nat.reduceAdd, Nat.reduceEqDiff, reduceIte, Nat.reduceMul, Nat.reduceSub, reduceCtorEq, Int.reduceNe, Int.reduceEq, ne_eq, Nat.reduceLeDiff]; (try simp (disch := omega) only [i64_in, tmodn, tdivn]); exact rfl
                apply VC.seq
                apply VC.regt ΦR_ok [0, 1, 8, 9, 40]; intro K' hK; dsimp only [List.take, List.drop, List.map, strip, stripG]; simp -implicitDefEqProofs only [go_sem, Nat.reduceLT, Nat.reduceAdd, Nat.reduceEqDiff, reduceIte, Nat.reduceMul, Nat.reduceSub, reduceCtorEq, Int.reduceNe, Int.reduceEq, ne_eq, Nat.reduceLeDiff]
                (repeat' first | (refine hK _ ?_; clear hK K') | apply And.intro | first | omega | ((try simp only [decide_eq_true_eq, decide_eq_false_iff_not, Bool.not_eq_true', Bool.not_eq_false', Bool.not_eq_eq_eq_not, Bool.not_true, Bool.not_false, Decidable.not_not, ne_eq] at *); omega))
                all_goals
                  apply VC.at
                  · simp -implicitDefEqProofs only [go_sem, Nat.reduceLT, Nat.reduceAdd, Nat.reduceEqDiff, reduceIte, Nat.reduceMul, Nat.reduceSub, reduceCtorEq, Int.reduceNe, Int.reduceEq, ne_eq, Nat.reduceLeDiff]; (try simp (disch := omega) only [i64_in, tmodn, tdivn]); exact rfl
                  first | (apply VC.condd; (focus (simp -implicitDefEqProofs only [go_sem, Nat.reduceLT, Nat.reduceAdd, Nat.reduceEqDiff, reduceIte, Nat.reduceMul, Nat.reduceSub, reduceCtorEq, Int.reduceNe, Int.reduceEq, ne_eq, Nat.reduceLeDiff]; with_reducible exact rfl))) | (apply VC.condn; (focus (simp -implicitDefEqProofs only [go_sem, Nat.reduceLT, Nat.reduceAdd, Nat.reduceEqDiff, reduceIte, Nat.reduceMul, Nat.reduceSub, reduceCtorEq, Int.reduceNe, Int.reduceEq, ne_eq, Nat.reduceLeDiff]; with_reducible exact rfl))) | (apply VC.condt; (focus (simp -implicitDefEqProofs only [go_sem, Nat.reduceLT, Nat.reduceAdd, Nat.reduceEqDiff, reduceIte, Nat.reduceMul, Nat.reduceSub, reduceCtorEq, Int.reduceNe, Int.reduceEq, ne_eq, Nat.reduceLeDiff]; with_reducible exact rfl))) | (apply VC.condb; (focus (simp -implicitDefEqProofs only [go_sem, Nat.reduceLT, Nat.reduceAdd, Nat.reduceEqDiff, reduceIte, Nat.reduceMul, Nat.reduceSub, reduceCtorEq, Int.reduceNe, Int.reduceEq, ne_eq, Nat.reduceLeDiff]; exact rfl)))
                  · intro h; try exact absurd h (by decide)
                    all_goals
                      apply VC.skip
                      refine thenK_n ?_
                      apply VC.seq
                      apply VC.block
                      apply VC.regLast ΦR_ok; intro K' hK; dsimp only [List.take, List.drop, List.map, strip, stripG]; simp -implicitDefEqProofs only [go_sem, Nat.reduceLT, Nat.reduceAdd, Nat.reduceEqDiff, reduceIte, Nat.reduceMul, Nat.reduceSub, reduceCtorEq, Int.reduceNe, Int.reduceEq, ne_eq, Nat.reduceLeDiff]
                      (repeat' first | (refine hK _ ?_; clear hK K') | apply And.intro | first | omega | ((try simp only [decide_eq_true_eq, decide_eq_false_iff_not, Bool.not_eq_true', Bool.not_eq_false', Bool.not_eq_eq_eq_not, Bool.not_true, Bool.not_false, Decidable.not_not, ne_eq] at *); omega))
                      all_goals
                        refine blockK_n ?_
                        refine thenK_n ?_
                        apply VC.regLast ΦR_ok; intro K' hK; dsimp only [List.take, List.drop, List.map, strip, stripG]; simp -implicitDefEqProofs only [go_sem, Nat.reduceLT, Nat.reduceAdd, Nat.reduceEqDiff, reduceIte, Nat.reduceMul, Nat.reduceSub, reduceCtorEq, Int.reduceNe, Int.reduceEq, ne_eq, Nat.reduceLeDiff]
                        (repeat' first | (refine hK _ ?_; clear hK K') | apply And.intro | first | omega | ((try simp only [decide_eq_true_eq, decide_eq_false_iff_not, Bool.not_eq_true', Bool.not_eq_false', Bool.not_eq_eq_eq_not, Bool.not_true, Bool.not_false, Decidable.not_not, ne_eq] at *); omega))
                        all_goals
                          refine thenK_n ?_
                          refine ⟨((n + (365 + Cal.lp k)), (k + 1)), ?_, Ent.into ?_ rfl rfl rfl rfl, ?_⟩
                          · dsimp only; omega
                          · simp -implicitDefEqProofs only [go_sem, Nat.reduceLT, Nat.reduceAdd, Nat.reduceEqDiff, reduceIte, Nat.reduceMul, Nat.reduceSub, reduceCtorEq, Int.reduceNe, Int.reduceEq, ne_eq, Nat.reduceLeDiff]; (try simp (disch := omega) only [and_self, eq_self, i64_in, tmodn, tdivn])
                          · dsimp only; omega
                  · intro h; try exact absurd h (by decide)
                    all_goals
                      apply VC.exit
                      refine thenK_e ?_
                      refine thenK_e ?_
                      refine blockK_e ?_
                      refine thenK_n ?_
                      apply VC.seq
                      apply VC.regt ΦR_ok [0, 1, 8, 10]; intro K' hK; dsimp only [List.take, List.drop, List.map, strip, stripG]; simp -implicitDefEqProofs only [go_sem, Nat.reduceLT, Nat.reduceAdd, Nat.reduceEqDiff, reduceIte, Nat.reduceMul, Nat.reduceSub, reduceCtorEq, Int.reduceNe, Int.reduceEq, ne_eq, Nat.reduceLeDiff]
                      (repeat' first | (refine hK _ ?_; clear hK K') | apply And.intro | first | omega | ((try simp only [decide_eq_true_eq, decide_eq_false_iff_not, Bool.not_eq_true', Bool.not_eq_false', Bool.not_eq_eq_eq_not, Bool.not_true, Bool.not_false, Decidable.not_not, ne_eq] at *); omega))
                      all_goals
                        apply VC.at
                        · simp -implicitDefEqProofs only [go_sem, Nat.reduceLT, Nat.reduceAdd, Nat.reduceEqDiff, reduceIte, Nat.reduceMul, Nat.reduceSub, reduceCtorEq, Int.reduceNe, Int.reduceEq, ne_eq, Nat.reduceLeDiff]; (try simp (disch := omega) only [i64_in, tmodn, tdivn]); exact rfl
                        apply VC.block
                        have ek : k = y := by omega
                        have := C_1 y
                        refine VC.loopP (ι := Int × Int) [0, 1] (fun i => [(8, .dat (.int .i64 i.1)), (10, .dat (.int .i64 i.2))]) (fun _ => []) (fun i => 1 ≤ i.2 ∧ i.2 ≤ m ∧ i.1 = d - 1 + Cal.Y y + Cal.C y i.2) (fun i => (m - i.2).toNat) (n, 1) ?_ ?_ ?_
                        · dsimp only; rw [ek] at h3; omega
                        · refine Ent.into ?_ rfl rfl rfl rfl; simp -implicitDefEqProofs only [go_sem, Nat.reduceLT, Nat.reduceAdd, Nat.reduceEqDiff, reduceIte, Nat.reduceMul, Nat.reduceSub, reduceCtorEq, Int.reduceNe, Int.reduceEq, ne_eq, Nat.reduceLeDiff]
                        · rintro ⟨x, q⟩ hp; dsimp only at hp; obtain ⟨h4, h5, h6⟩ := hp; have := C_rng y q h4 (by omega); have := Y_rng y (by omega) (by omega); have := long_le y q; have := fun a => Cal.C_succ y q h4 a
                          apply VC.at
                          · simp -implicitDefEqProofs only [go_sem, Nat.reduceLT, Nat.reduceAdd, Nat.reduceEqDiff, reduceIte, Nat.reduceMul, Nat.reduceSub, reduceCtorEq, Int.reduceNe, Int.reduceEq, ne_eq, Nat.reduceLeDiff]; (try simp (disch := omega) only [i64_in, tmodn, tdivn]); exact rfl
                          apply VC.seq
                          apply VC.regt ΦR_ok [0, 1, 8, 10, 49]; intro K' hK; dsimp only [List.take, List.drop, List.map, strip, stripG]; simp -implicitDefEqProofs only [go_sem, Nat.reduceLT, Nat.reduceAdd, Nat.reduceEqDiff, reduceIte, Nat.reduceMul, Nat.reduceSub, reduceCtorEq, Int.reduceNe, Int.reduceEq, ne_eq, Nat.reduceLeDiff]
                          (repeat' first | (refine hK _ ?_; clear hK K') | apply And.intro | first | omega | ((try simp only [decide_eq_true_eq, decide_eq_false_iff_not, Bool.not_eq_true', Bool.not_eq_false', Bool.not_eq_eq_eq_not, Bool.not_true, Bool.not_false, Decidable.not_not, ne_eq] at *); omega))
                          all_goals
                            apply VC.at
                            · simp -implicitDefEqProofs only [go_sem, Nat.reduceLT, Nat.reduceAdd, Nat.reduceEqDiff, reduceIte, Nat.reduceMul, Nat.reduceSub, reduceCtorEq, Int.reduceNe, Int.reduceEq, ne_eq, Nat.reduceLeDiff]; (try simp (disch := omega) only [i64_in, tmodn, tdivn]); exact rfl
                            first | (apply VC.condd; (focus (simp -implicitDefEqProofs only [go_sem, Nat.reduceLT, Nat.reduceAdd, Nat.reduceEqDiff, reduceIte, Nat.reduceMul, Nat.reduceSub, reduceCtorEq, Int.reduceNe, Int.reduceEq, ne_eq, Nat.reduceLeDiff]; with_reducible exact rfl))) | (apply VC.condn; (focus (simp -implicitDefEqProofs only [go_sem, Nat.reduceLT, Nat.reduceAdd, Nat.reduceEqDiff, reduceIte, Nat.reduceMul, Nat.reduceSub, reduceCtorEq, Int.reduceNe, Int.reduceEq, ne_eq, Nat.reduceLeDiff]; with_reducible exact rfl))) | (apply VC.condt; (focus (simp -implicitDefEqProofs only [go_sem, Nat.reduceLT, Nat.reduceAdd, Nat.reduceEqDiff, reduceIte, Nat.reduceMul, Nat.reduceSub, reduceCtorEq, Int.reduceNe, Int.reduceEq, ne_eq, Nat.reduceLeDiff]; with_reducible exact rfl))) | (apply VC.condb; (focus (simp -implicitDefEqProofs only [go_sem, Nat.reduceLT, Nat.reduceAdd, Nat.reduceEqDiff, reduceIte, Nat.reduceMul, Nat.reduceSub, reduceCtorEq, Int.reduceNe, Int.reduceEq, ne_eq, Nat.reduceLeDiff]; exact rfl)))
                            · intro h; try exact absurd h (by decide)
                              all_goals
                                apply VC.skip
                                refine thenK_n ?_
                                apply VC.seq
                                apply VC.block
                                apply VC.regLast ΦR_ok; intro K' hK; dsimp only [List.take, List.drop, List.map, strip, stripG]; simp -implicitDefEqProofs only [go_sem, Nat.reduceLT, Nat.reduceAdd, Nat.reduceEqDiff, reduceIte, Nat.reduceMul, Nat.reduceSub, reduceCtorEq, Int.reduceNe, Int.reduceEq, ne_eq, Nat.reduceLeDiff]
                                (repeat' first | (refine hK _ ?_; clear hK K') | apply And.intro | first | omega | ((try simp only [decide_eq_true_eq, decide_eq_false_iff_not, Bool.not_eq_true', Bool.not_eq_false', Bool.not_eq_eq_eq_not, Bool.not_true, Bool.not_false, Decidable.not_not, ne_eq] at *); omega))
                                all_goals
                                  refine blockK_n ?_
                                  refine thenK_n ?_
                                  apply VC.regLast ΦR_ok; intro K' hK; dsimp only [List.take, List.drop, List.map, strip, stripG]; simp -implicitDefEqProofs only [go_sem, Nat.reduceLT, Nat.reduceAdd, Nat.reduceEqDiff, reduceIte, Nat.reduceMul, Nat.reduceSub, reduceCtorEq, Int.reduceNe, Int.reduceEq, ne_eq, Nat.reduceLeDiff]
                                  (repeat' first | (refine hK _ ?_; clear hK K') | apply And.intro | first | omega | ((try simp only [decide_eq_true_eq, decide_eq_false_iff_not, Bool.not_eq_true', Bool.not_eq_false', Bool.not_eq_eq_eq_not, Bool.not_true, Bool.not_false, Decidable.not_not, ne_eq] at *); omega))
                                  all_goals
                                    refine thenK_n ?_
                                    refine ⟨((x + Cal.long y q), (q + 1)), ?_, Ent.into ?_ rfl rfl rfl rfl, ?_⟩
                                    · dsimp only; have := this (by omega); omega
                                    · simp -implicitDefEqProofs only [go_sem, Nat.reduceLT, Nat.reduceAdd, Nat.reduceEqDiff, reduceIte, Nat.reduceMul, Nat.reduceSub, reduceCtorEq, Int.reduceNe, Int.reduceEq, ne_eq, Nat.reduceLeDiff]; (try simp (disch := omega) only [and_self, eq_self, i64_in, tmodn, tdivn])
                                    · dsimp only; omega
                            · intro h; try exact absurd h (by decide)
                              all_goals
                                apply VC.exit
                                refine thenK_e ?_
                                refine thenK_e ?_
                                refine blockK_e ?_
                                refine thenK_n ?_
                                apply VC.regt ΦR_ok [6, 7]; intro K' hK; dsimp only [List.take, List.drop, List.map, strip, stripG]; simp -implicitDefEqProofs only [go_sem, Nat.reduceLT, Nat.reduceAdd, Nat.reduceEqDiff, reduceIte, Nat.reduceMul, Nat.reduceSub, reduceCtorEq, Int.reduceNe, Int.reduceEq, ne_eq, Nat.reduceLeDiff]
                                (repeat' first | (refine hK _ ?_; clear hK K') | apply And.intro | first | omega | ((try simp only [decide_eq_true_eq, decide_eq_false_iff_not, Bool.not_eq_true', Bool.not_eq_false', Bool.not_eq_eq_eq_not, Bool.not_true, Bool.not_false, Decidable.not_not, ne_eq] at *); omega))
                                all_goals
                                  apply VC.at
                                  · simp -implicitDefEqProofs only [go_sem, Nat.reduceLT, Nat.reduceAdd, Nat.reduceEqDiff, reduceIte, Nat.reduceMul, Nat.reduceSub, reduceCtorEq, Int.reduceNe, Int.reduceEq, ne_eq, Nat.reduceLeDiff]; (try simp (disch := omega) only [i64_in, tmodn, tdivn]); exact rfl
                                  apply VC.ret
                                  simp -implicitDefEqProofs only [go_sem, Nat.reduceLT, Nat.reduceAdd, Nat.reduceEqDiff, reduceIte, Nat.reduceMul, Nat.reduceSub, reduceCtorEq, Int.reduceNe, Int.reduceEq, ne_eq, Nat.reduceLeDiff]
                                  try simp only [List.cons.injEq, Vm.Data.agg.injEq, Vm.Data.int.injEq, Vm.Data.bool.injEq, true_and, and_true]
                                  first
                                    | (have e : dateOk y m d = false := by (simp only [dateOk, decide_eq_false_iff_not]; omega)
                                       simp [daysA, daysE, e]; done)
                                    | (have e : dateOk y m d = true := by (simp only [dateOk, decide_eq_true_eq]; omega)
                                       simp only [daysA, daysE, e, if_true]; unfold Cal.num; have eq : q = m := by omega
                                       rw [eq] at h6; simp; omega)
end Go.Proofs.Ytfbodageccednaa.Hd
namespace Go.Proofs.Ytfbodageccednaa.Hd
open Go Go.RowKit Go.Proofs.Ytfbodageccednaa.Vm Go.IntWalk
set_option maxRecDepth 100000
set_option maxHeartbeats 4000000
def Cc (y m : Int) : Int := if m = 13 then 365 + Cal.lp y else Cal.C y m
theorem Cc_1 (y : Int) : Cc y 1 = 0 := by simp [Cc, Cal.C]
theorem Cc_13 (y : Int) : Cc y 13 = 365 + Cal.lp y := by simp [Cc]
theorem Cc_succ (y m : Int) (h : 1 ≤ m) (h' : m ≤ 12) : Cc y (m + 1) = Cc y m + Cal.long y m := by
  unfold Cc
  have h12 := Cal.C_12 y
  by_cases e : m = 12
  · subst e; simp; omega
  · have := Cal.C_succ y m h (by omega)
    rw [if_neg (by omega), if_neg (by omega)]; exact this
theorem Cc_rng (y m : Int) (h : 1 ≤ m) (h' : m ≤ 13) : 0 ≤ Cc y m ∧ Cc y m ≤ 366 := by
  have := Cal.lp_01 y
  unfold Cc
  split
  · omega
  · exact C_rng y m h (by omega)
theorem date_hit (n y m x : Int) (h1 : 1970 ≤ y) (h2 : y ≤ 9999) (h3 : 1 ≤ m) (h4 : m ≤ 12) (h5 : 0 ≤ x) (h6 : x < Cal.long y m) (h7 : x + Cc y m + Cal.Y y = n) : y = dateY n ∧ m = dateM n ∧ x + 1 = dateD n ∧ 0 = dateE n := by
  have e : n = Cal.num y m (x + 1) := by unfold Cal.num; unfold Cc at h7; rw [if_neg (by omega)] at h7; omega
  have r := Cal.num_range y m (x + 1) h1 h2 h3 h4 (by omega) (by omega)
  obtain ⟨a, b, c⟩ := Cal.at_num y m (x + 1) h1 h2 h3 h4 (by omega) (by omega)
  rw [← e] at a b c r
  have i : dateIn n = true := by simp only [dateIn, decide_eq_true_eq]; exact r
  simp only [dateY, dateM, dateD, dateE, i, if_true]
  exact ⟨a.symm, b.symm, c.symm, trivial⟩
theorem date_miss (n : Int) (h : n < 0 ∨ 2932897 ≤ n) : 0 = dateY n ∧ 0 = dateM n ∧ 0 = dateD n ∧ 150 = dateE n := by
  have i : dateIn n = false := by simp only [dateIn, decide_eq_false_iff_not]; omega
  simp [dateY, dateM, dateD, dateE, i]
theorem date_end (n x y : Int) (h1 : y ≤ 10000) (h2 : ¬ y ≤ 9999) (h3 : 0 ≤ x) (h4 : x + Cal.Y y = n) : 0 = dateY n ∧ 0 = dateM n ∧ 0 = dateD n ∧ 150 = dateE n := by
  have e : y = 10000 := by omega
  subst e
  have := Y_10000
  exact date_miss n (.inr (by omega))
def rdateF : PFn := ⟨fun ds => match ds with | [.int .i64 n] => n ≤ 9223372036854775807 | _ => False, fun ds => match ds with | [.int .i64 n] => [.int .i64 (dateY n), .int .i64 (dateM n), .int .i64 (dateD n), .int .i64 (dateE n)] | _ => []⟩
@[go_sem] theorem rdate_pre (n : Int) : rdateF.pre [.int .i64 n] = (n ≤ 9223372036854775807) := rfl
@[go_sem] theorem rdate_res (n : Int) : rdateF.res [.int .i64 n] = [.int .i64 (dateY n), .int .i64 (dateM n), .int .i64 (dateD n), .int .i64 (dateE n)] := rfl
theorem rdate_ok : Pure E 12 rdateF := by
  apply Pure.of_body (rs := [.tmp 2, .tmp 3, .tmp 4, .tmp 5]) (n := 40) Try.func12 rfl rfl rfl
  intro ds hds
  unfold rdateF at hds
  dsimp only at hds
  split at hds
  case h_2 => exact hds.elim
  rename_i n
  skip
  refine ⟨Nat.le_of_ble_eq_true rfl, ?_⟩
  show VC E none _ (pureSt 40 _) _
  apply VC.regt ΦR_ok [0]; intro K' hK; dsimp only [List.take, List.drop, List.map, strip, stripG]; simp -implicitDefEqProofs only [go_sem, Nat.reduceLT, Nat.reduceAdd, Nat.reduceEqDiff, reduceIte, Nat.reduceMul, Nat.reduceSub, reduceCtorEq, Int.reduceNe, Int.reduceEq, ne_eq, Nat.reduceLeDiff]
  (repeat' first | (refine hK _ ?_; clear hK K') | apply And.intro | first | omega | ((try simp only [decide_eq_true_eq, decide_eq_false_iff_not, Bool.not_eq_true', Bool.not_eq_false', Bool.not_eq_eq_eq_not, Bool.not_true, Bool.not_false, Decidable.not_not, ne_eq] at *); omega))
  all_goals
    apply VC.at
    · simp -implicitDefEqProofs only [go_sem, Nat.reduceLT, Nat.reduceAdd, Nat.reduceEqDiff, reduceIte, Nat.reduceMul, Nat.reduceSub, reduceCtorEq, Int.reduceNe, Int.reduceEq, ne_eq, Nat.reduceLeDiff]; (try simp (disch := omega) only [i64_in, tmodn, tdivn]); exact rfl
    apply VC.seq
    apply VC.regt ΦR_ok [0, 9]; intro K' hK; dsimp only [List.take, List.drop, List.map, strip, stripG]; simp -implicitDefEqProofs only [go_sem, Nat.reduceLT, Nat.reduceAdd, Nat.reduceEqDiff, reduceIte, Nat.reduceMul, Nat.reduceSub, reduceCtorEq, Int.reduceNe, Int.reduceEq, ne_eq, Nat.reduceLeDiff]
    (repeat' first | (refine hK _ ?_; clear hK K') | apply And.intro | first | omega | ((try simp only [decide_eq_true_eq, decide_eq_false_iff_not, Bool.not_eq_true', Bool.not_eq_false', Bool.not_eq_eq_eq_not, Bool.not_true, Bool.not_false, Decidable.not_not, ne_eq] at *); omega))
    all_goals
      apply VC.at
      · simp -implicitDefEqProofs only [go_sem, Nat.reduceLT, Nat.reduceAdd, Nat.reduceEqDiff, reduceIte, Nat.reduceMul, Nat.reduceSub, reduceCtorEq, Int.reduceNe, Int.reduceEq, ne_eq, Nat.reduceLeDiff]; (try simp (disch := omega) only [i64_in, tmodn, tdivn]); exact rfl
      first | (apply VC.condd; (focus (simp -implicitDefEqProofs only [go_sem, Nat.reduceLT, Nat.reduceAdd, Nat.reduceEqDiff, reduceIte, Nat.reduceMul, Nat.reduceSub, reduceCtorEq, Int.reduceNe, Int.reduceEq, ne_eq, Nat.reduceLeDiff]; with_reducible exact rfl))) | (apply VC.condn; (focus (simp -implicitDefEqProofs only [go_sem, Nat.reduceLT, Nat.reduceAdd, Nat.reduceEqDiff, reduceIte, Nat.reduceMul, Nat.reduceSub, reduceCtorEq, Int.reduceNe, Int.reduceEq, ne_eq, Nat.reduceLeDiff]; with_reducible exact rfl))) | (apply VC.condt; (focus (simp -implicitDefEqProofs only [go_sem, Nat.reduceLT, Nat.reduceAdd, Nat.reduceEqDiff, reduceIte, Nat.reduceMul, Nat.reduceSub, reduceCtorEq, Int.reduceNe, Int.reduceEq, ne_eq, Nat.reduceLeDiff]; with_reducible exact rfl))) | (apply VC.condb; (focus (simp -implicitDefEqProofs only [go_sem, Nat.reduceLT, Nat.reduceAdd, Nat.reduceEqDiff, reduceIte, Nat.reduceMul, Nat.reduceSub, reduceCtorEq, Int.reduceNe, Int.reduceEq, ne_eq, Nat.reduceLeDiff]; exact rfl)))
      · intro h; try exact absurd h (by decide)
        all_goals
          apply VC.regt ΦR_ok [2, 3, 4, 5]; intro K' hK; dsimp only [List.take, List.drop, List.map, strip, stripG]; simp -implicitDefEqProofs only [go_sem, Nat.reduceLT, Nat.reduceAdd, Nat.reduceEqDiff, reduceIte, Nat.reduceMul, Nat.reduceSub, reduceCtorEq, Int.reduceNe, Int.reduceEq, ne_eq, Nat.reduceLeDiff]
          (repeat' first | (refine hK _ ?_; clear hK K') | apply And.intro | first | omega | ((try simp only [decide_eq_true_eq, decide_eq_false_iff_not, Bool.not_eq_true', Bool.not_eq_false', Bool.not_eq_eq_eq_not, Bool.not_true, Bool.not_false, Decidable.not_not, ne_eq] at *); omega))
          all_goals
            apply VC.at
            · simp -implicitDefEqProofs only [go_sem, Nat.reduceLT, Nat.reduceAdd, Nat.reduceEqDiff, reduceIte, Nat.reduceMul, Nat.reduceSub, reduceCtorEq, Int.reduceNe, Int.reduceEq, ne_eq, Nat.reduceLeDiff]; (try simp (disch := omega) only [i64_in, tmodn, tdivn]); exact rfl
            apply VC.ret
            refine thenK_r ?_
            simp -implicitDefEqProofs only [go_sem, Nat.reduceLT, Nat.reduceAdd, Nat.reduceEqDiff, reduceIte, Nat.reduceMul, Nat.reduceSub, reduceCtorEq, Int.reduceNe, Int.reduceEq, ne_eq, Nat.reduceLeDiff]
            try simp only [List.cons.injEq, Vm.Data.agg.injEq, Vm.Data.int.injEq, Vm.Data.bool.injEq, true_and, and_true]
            first | exact date_miss n (by omega) | exact date_end n x y (by omega) (by omega) (by omega) (by omega) | exact date_hit n y m z (by omega) (by omega) (by omega) (by omega) (by omega) (by omega) (by omega)
      · intro h; try exact absurd h (by decide)
        all_goals
          apply VC.skip
          refine thenK_n ?_
          apply VC.seq
          apply VC.regt ΦR_ok [0, 6]; intro K' hK; dsimp only [List.take, List.drop, List.map, strip, stripG]; simp -implicitDefEqProofs only [go_sem, Nat.reduceLT, Nat.reduceAdd, Nat.reduceEqDiff, reduceIte, Nat.reduceMul, Nat.reduceSub, reduceCtorEq, Int.reduceNe, Int.reduceEq, ne_eq, Nat.reduceLeDiff]
          (repeat' first | (refine hK _ ?_; clear hK K') | apply And.intro | first | omega | ((try simp only [decide_eq_true_eq, decide_eq_false_iff_not, Bool.not_eq_true', Bool.not_eq_false', Bool.not_eq_eq_eq_not, Bool.not_true, Bool.not_false, Decidable.not_not, ne_eq] at *); omega))
          all_goals
            apply VC.at
            · simp -implicitDefEqProofs only [go_sem, Nat.reduceLT, Nat.reduceAdd, Nat.reduceEqDiff, reduceIte, Nat.reduceMul, Nat.reduceSub, reduceCtorEq, Int.reduceNe, Int.reduceEq, ne_eq, Nat.reduceLeDiff]; (try simp (disch := omega) only [i64_in, tmodn, tdivn]); exact rfl
            apply VC.block
            refine VC.loopP (ι := Int × Int) [] (fun i => [(0, .dat (.int .i64 i.1)), (6, .dat (.int .i64 i.2))]) (fun _ => []) (fun i => 1970 ≤ i.2 ∧ i.2 ≤ 10000 ∧ 0 ≤ i.1 ∧ i.1 + Cal.Y i.2 = n) (fun i => (10000 - i.2).toNat) (n, 1970) ?_ ?_ ?_
            · dsimp only; have := Y_1970; omega
            · refine Ent.into ?_ rfl rfl rfl rfl; simp -implicitDefEqProofs only [go_sem, Nat.reduceLT, Nat.reduceAdd, Nat.reduceEqDiff, reduceIte, Nat.reduceMul, Nat.reduceSub, reduceCtorEq, Int.reduceNe, Int.reduceEq, ne_eq, Nat.reduceLeDiff]
            · rintro ⟨x, y⟩ hp; dsimp only at hp; obtain ⟨h1, h2, h4, h3⟩ := hp; have := Y_rng y h1 h2; have := Cal.Y_succ y; have := Cal.lp_01 y
              apply VC.at
              · simp -implicitDefEqProofs only [go_sem, Nat.reduceLT, Nat.reduceAdd, Nat.reduceEqDiff, reduceIte, Nat.reduceMul, Nat.reduceSub, reduceCtorEq, Int.reduceNe, Int.reduceEq, ne_eq, Nat.reduceLeDiff]; (try simp (disch := omega) only [i64_in, tmodn, tdivn]); exact rfl
              apply VC.seq
              apply VC.regt ΦR_ok [0, 6, 11]; intro K' hK; dsimp only [List.take, List.drop, List.map, strip, stripG]; simp -implicitDefEqProofs only [go_sem, Nat.reduceLT, Nat.reduceAdd, Nat.reduceEqDiff, reduceIte, Nat.reduceMul, Nat.reduceSub, reduceCtorEq, Int.reduceNe, Int.reduceEq, ne_eq, Nat.reduceLeDiff]
              (repeat' first | (refine hK _ ?_; clear hK K') | apply And.intro | first | omega | ((try simp only [decide_eq_true_eq, decide_eq_false_iff_not, Bool.not_eq_true', Bool.not_eq_false', Bool.not_eq_eq_eq_not, Bool.not_true, Bool.not_false, Decidable.not_not, ne_eq] at *); omega))
              all_goals
                apply VC.at
                · simp -implicitDefEqProofs only [go_sem, Nat.reduceLT, Nat.reduceAdd, Nat.reduceEqDiff, reduceIte, Nat.reduceMul, Nat.reduceSub, reduceCtorEq, Int.reduceNe, Int.reduceEq, ne_eq, Nat.reduceLeDiff]; (try simp (disch := omega) only [i64_in, tmodn, tdivn]); exact rfl
                first | (apply VC.condd; (focus (simp -implicitDefEqProofs only [go_sem, Nat.reduceLT, Nat.reduceAdd, Nat.reduceEqDiff, reduceIte, Nat.reduceMul, Nat.reduceSub, reduceCtorEq, Int.reduceNe, Int.reduceEq, ne_eq, Nat.reduceLeDiff]; with_reducible exact rfl))) | (apply VC.condn; (focus (simp -implicitDefEqProofs only [go_sem, Nat.reduceLT, Nat.reduceAdd, Nat.reduceEqDiff, reduceIte, Nat.reduceMul, Nat.reduceSub, reduceCtorEq, Int.reduceNe, Int.reduceEq, ne_eq, Nat.reduceLeDiff]; with_reducible exact rfl))) | (apply VC.condt; (focus (simp -implicitDefEqProofs only [go_sem, Nat.reduceLT, Nat.reduceAdd, Nat.reduceEqDiff, reduceIte, Nat.reduceMul, Nat.reduceSub, reduceCtorEq, Int.reduceNe, Int.reduceEq, ne_eq, Nat.reduceLeDiff]; with_reducible exact rfl))) | (apply VC.condb; (focus (simp -implicitDefEqProofs only [go_sem, Nat.reduceLT, Nat.reduceAdd, Nat.reduceEqDiff, reduceIte, Nat.reduceMul, Nat.reduceSub, reduceCtorEq, Int.reduceNe, Int.reduceEq, ne_eq, Nat.reduceLeDiff]; exact rfl)))
                · intro h; try exact absurd h (by decide)
                  all_goals
                    apply VC.skip
                    refine thenK_n ?_
                    apply VC.seq
                    apply VC.block
                    apply VC.seq
                    apply VC.regt ΦR_ok [0, 6, 17]; intro K' hK; dsimp only [List.take, List.drop, List.map, strip, stripG]; simp -implicitDefEqProofs only [go_sem, Nat.reduceLT, Nat.reduceAdd, Nat.reduceEqDiff, reduceIte, Nat.reduceMul, Nat.reduceSub, reduceCtorEq, Int.reduceNe, Int.reduceEq, ne_eq, Nat.reduceLeDiff]
                    (repeat' first | (refine hK _ ?_; clear hK K') | apply And.intro | first | omega | ((try simp only [decide_eq_true_eq, decide_eq_false_iff_not, Bool.not_eq_true', Bool.not_eq_false', Bool.not_eq_eq_eq_not, Bool.not_true, Bool.not_false, Decidable.not_not, ne_eq] at *); omega))
                    all_goals
                      apply VC.at
                      · simp -implicitDefEqProofs only [go_sem, Nat.reduceLT, Nat.reduceAdd, Nat.reduceEqDiff, reduceIte, Nat.reduceMul, Nat.reduceSub, reduceCtorEq, Int.reduceNe, Int.reduceEq, ne_eq, Nat.reduceLeDiff]; (try simp (disch := omega) only [i64_in, tmodn, tdivn]); exact rfl
                      first | (apply VC.condd; (focus (simp -implicitDefEqProofs only [go_sem, Nat.reduceLT, Nat.reduceAdd, Nat.reduceEqDiff, reduceIte, Nat.reduceMul, Nat.reduceSub, reduceCtorEq, Int.reduceNe, Int.reduceEq, ne_eq, Nat.reduceLeDiff]; with_reducible exact rfl))) | (apply VC.condn; (focus (simp -implicitDefEqProofs only [go_sem, Nat.reduceLT, Nat.reduceAdd, Nat.reduceEqDiff, reduceIte, Nat.reduceMul, Nat.reduceSub, reduceCtorEq, Int.reduceNe, Int.reduceEq, ne_eq, Nat.reduceLeDiff]; with_reducible exact rfl))) | (apply VC.condt; (focus (simp -implicitDefEqProofs only [go_sem, Nat.reduceLT, Nat.reduceAdd, Nat.reduceEqDiff, reduceIte, Nat.reduceMul, Nat.reduceSub, reduceCtorEq, Int.reduceNe, Int.reduceEq, ne_eq, Nat.reduceLeDiff]; with_reducible exact rfl))) | (apply VC.condb; (focus (simp -implicitDefEqProofs only [go_sem, Nat.reduceLT, Nat.reduceAdd, Nat.reduceEqDiff, reduceIte, Nat.reduceMul, Nat.reduceSub, reduceCtorEq, Int.reduceNe, Int.reduceEq, ne_eq, Nat.reduceLeDiff]; exact rfl)))
                      · intro h; try exact absurd h (by decide)
                        all_goals
                          apply VC.regt ΦR_ok [0, 6]; intro K' hK; dsimp only [List.take, List.drop, List.map, strip, stripG]; simp -implicitDefEqProofs only [go_sem, Nat.reduceLT, Nat.reduceAdd, Nat.reduceEqDiff, reduceIte, Nat.reduceMul, Nat.reduceSub, reduceCtorEq, Int.reduceNe, Int.reduceEq, ne_eq, Nat.reduceLeDiff]
                          (repeat' first | (refine hK _ ?_; clear hK K') | apply And.intro | first | omega | ((try simp only [decide_eq_true_eq, decide_eq_false_iff_not, Bool.not_eq_true', Bool.not_eq_false', Bool.not_eq_eq_eq_not, Bool.not_true, Bool.not_false, Decidable.not_not, ne_eq] at *); omega))
                          all_goals
                            apply VC.at
                            · simp -implicitDefEqProofs only [go_sem, Nat.reduceLT, Nat.reduceAdd, Nat.reduceEqDiff, reduceIte, Nat.reduceMul, Nat.reduceSub, reduceCtorEq, Int.reduceNe, Int.reduceEq, ne_eq, Nat.reduceLeDiff]; (try simp (disch := omega) only [i64_in, tmodn, tdivn]); exact rfl
                            apply VC.exit
                            refine thenK_e ?_
                            refine blockK_e ?_
                            refine thenK_n ?_
                            apply VC.regLast ΦR_ok; intro K' hK; dsimp only [List.take, List.drop, List.map, strip, stripG]; simp -implicitDefEqProofs only [go_sem, Nat.reduceLT, Nat.reduceAdd, Nat.reduceEqDiff, reduceIte, Nat.reduceMul, Nat.reduceSub, reduceCtorEq, Int.reduceNe, Int.reduceEq, ne_eq, Nat.reduceLeDiff]
                            (repeat' first | (refine hK _ ?_; clear hK K') | apply And.intro | first | omega | ((try simp only [decide_eq_true_eq, decide_eq_false_iff_not, Bool.not_eq_true', Bool.not_eq_false', Bool.not_eq_eq_eq_not, Bool.not_true, Bool.not_false, Decidable.not_not, ne_eq] at *); omega))
                            all_goals
                              refine thenK_n ?_
                              refine ⟨((x - (365 + Cal.lp y)), (y + 1)), ?_, Ent.into ?_ rfl rfl rfl rfl, ?_⟩
                              · dsimp only; omega
                              · simp -implicitDefEqProofs only [go_sem, Nat.reduceLT, Nat.reduceAdd, Nat.reduceEqDiff, reduceIte, Nat.reduceMul, Nat.reduceSub, reduceCtorEq, Int.reduceNe, Int.reduceEq, ne_eq, Nat.reduceLeDiff]; (try simp (disch := omega) only [and_self, eq_self, i64_in, tmodn, tdivn])
                              · dsimp only; omega
                      · intro h; try exact absurd h (by decide)
                        all_goals
                          apply VC.skip
                          refine thenK_n ?_
                          apply VC.regt ΦR_ok [0, 6, 7]; intro K' hK; dsimp only [List.take, List.drop, List.map, strip, stripG]; simp -implicitDefEqProofs only [go_sem, Nat.reduceLT, Nat.reduceAdd, Nat.reduceEqDiff, reduceIte, Nat.reduceMul, Nat.reduceSub, reduceCtorEq, Int.reduceNe, Int.reduceEq, ne_eq, Nat.reduceLeDiff]
                          (repeat' first | (refine hK _ ?_; clear hK K') | apply And.intro | first | omega | ((try simp only [decide_eq_true_eq, decide_eq_false_iff_not, Bool.not_eq_true', Bool.not_eq_false', Bool.not_eq_eq_eq_not, Bool.not_true, Bool.not_false, Decidable.not_not, ne_eq] at *); omega))
                          all_goals
                            apply VC.at
                            · simp -implicitDefEqProofs only [go_sem, Nat.reduceLT, Nat.reduceAdd, Nat.reduceEqDiff, reduceIte, Nat.reduceMul, Nat.reduceSub, reduceCtorEq, Int.reduceNe, Int.reduceEq, ne_eq, Nat.reduceLeDiff]; (try simp (disch := omega) only [i64_in, tmodn, tdivn]); exact rfl
                            apply VC.block
                            have := Cc_1 y
                            refine VC.loopP (ι := Int × Int) [6] (fun i => [(0, .dat (.int .i64 i.1)), (7, .dat (.int .i64 i.2))]) (fun _ => []) (fun i => 1 ≤ i.2 ∧ i.2 ≤ 13 ∧ 0 ≤ i.1 ∧ i.1 + Cc y i.2 + Cal.Y y = n ∧ i.1 + Cc y i.2 < 365 + Cal.lp y) (fun i => (13 - i.2).toNat) (x, 1) ?_ ?_ ?_
                            · dsimp only; omega
                            · refine Ent.into ?_ rfl rfl rfl rfl; simp -implicitDefEqProofs only [go_sem, Nat.reduceLT, Nat.reduceAdd, Nat.reduceEqDiff, reduceIte, Nat.reduceMul, Nat.reduceSub, reduceCtorEq, Int.reduceNe, Int.reduceEq, ne_eq, Nat.reduceLeDiff]
                            · rintro ⟨z, m⟩ hp; dsimp only at hp; obtain ⟨g1, g2, g3, g4, g5⟩ := hp; have := Cc_rng y m g1 g2; have := long_le y m; have cs := fun a => Cc_succ y m g1 a
                              apply VC.at
                              · simp -implicitDefEqProofs only [go_sem, Nat.reduceLT, Nat.reduceAdd, Nat.reduceEqDiff, reduceIte, Nat.reduceMul, Nat.reduceSub, reduceCtorEq, Int.reduceNe, Int.reduceEq, ne_eq, Nat.reduceLeDiff]; (try simp (disch := omega) only [i64_in, tmodn, tdivn]); exact rfl
                              apply VC.seq
                              apply VC.regt ΦR_ok [0, 6, 7, 23]; intro K' hK; dsimp only [List.take, List.drop, List.map, strip, stripG]; simp -implicitDefEqProofs only [go_sem, Nat.reduceLT, Nat.reduceAdd, Nat.reduceEqDiff, reduceIte, Nat.reduceMul, Nat.reduceSub, reduceCtorEq, Int.reduceNe, Int.reduceEq, ne_eq, Nat.reduceLeDiff]
                              (repeat' first | (refine hK _ ?_; clear hK K') | apply And.intro | first | omega | ((try simp only [decide_eq_true_eq, decide_eq_false_iff_not, Bool.not_eq_true', Bool.not_eq_false', Bool.not_eq_eq_eq_not, Bool.not_true, Bool.not_false, Decidable.not_not, ne_eq] at *); omega))
                              all_goals
                                apply VC.at
                                · simp -implicitDefEqProofs only [go_sem, Nat.reduceLT, Nat.reduceAdd, Nat.reduceEqDiff, reduceIte, Nat.reduceMul, Nat.reduceSub, reduceCtorEq, Int.reduceNe, Int.reduceEq, ne_eq, Nat.reduceLeDiff]; (try simp (disch := omega) only [i64_in, tmodn, tdivn]); exact rfl
                                first | (apply VC.condd; (focus (simp -implicitDefEqProofs only [go_sem, Nat.reduceLT, Nat.reduceAdd, Nat.reduceEqDiff, reduceIte, Nat.reduceMul, Nat.reduceSub, reduceCtorEq, Int.reduceNe, Int.reduceEq, ne_eq, Nat.reduceLeDiff]; with_reducible exact rfl))) | (apply VC.condn; (focus (simp -implicitDefEqProofs only [go_sem, Nat.reduceLT, Nat.reduceAdd, Nat.reduceEqDiff, reduceIte, Nat.reduceMul, Nat.reduceSub, reduceCtorEq, Int.reduceNe, Int.reduceEq, ne_eq, Nat.reduceLeDiff]; with_reducible exact rfl))) | (apply VC.condt; (focus (simp -implicitDefEqProofs only [go_sem, Nat.reduceLT, Nat.reduceAdd, Nat.reduceEqDiff, reduceIte, Nat.reduceMul, Nat.reduceSub, reduceCtorEq, Int.reduceNe, Int.reduceEq, ne_eq, Nat.reduceLeDiff]; with_reducible exact rfl))) | (apply VC.condb; (focus (simp -implicitDefEqProofs only [go_sem, Nat.reduceLT, Nat.reduceAdd, Nat.reduceEqDiff, reduceIte, Nat.reduceMul, Nat.reduceSub, reduceCtorEq, Int.reduceNe, Int.reduceEq, ne_eq, Nat.reduceLeDiff]; exact rfl)))
                                · intro h; try exact absurd h (by decide)
                                  all_goals
                                    apply VC.skip
                                    refine thenK_n ?_
                                    apply VC.seq
                                    apply VC.block
                                    apply VC.seq
                                    apply VC.regt ΦR_ok [0, 6, 7, 30]; intro K' hK; dsimp only [List.take, List.drop, List.map, strip, stripG]; simp -implicitDefEqProofs only [go_sem, Nat.reduceLT, Nat.reduceAdd, Nat.reduceEqDiff, reduceIte, Nat.reduceMul, Nat.reduceSub, reduceCtorEq, Int.reduceNe, Int.reduceEq, ne_eq, Nat.reduceLeDiff]
                                    (repeat' first | (refine hK _ ?_; clear hK K') | apply And.intro | first | omega | ((try simp only [decide_eq_true_eq, decide_eq_false_iff_not, Bool.not_eq_true', Bool.not_eq_false', Bool.not_eq_eq_eq_not, Bool.not_true, Bool.not_false, Decidable.not_not, ne_eq] at *); omega))
                                    all_goals
                                      apply VC.at
                                      · simp -implicitDefEqProofs only [go_sem, Nat.reduceLT, Nat.reduceAdd, Nat.reduceEqDiff, reduceIte, Nat.reduceMul, Nat.reduceSub, reduceCtorEq, Int.reduceNe, Int.reduceEq, ne_eq, Nat.reduceLeDiff]; (try simp (disch := omega) only [i64_in, tmodn, tdivn]); exact rfl
                                      first | (apply VC.condd; (focus (simp -implicitDefEqProofs only [go_sem, Nat.reduceLT, Nat.reduceAdd, Nat.reduceEqDiff, reduceIte, Nat.reduceMul, Nat.reduceSub, reduceCtorEq, Int.reduceNe, Int.reduceEq, ne_eq, Nat.reduceLeDiff]; with_reducible exact rfl))) | (apply VC.condn; (focus (simp -implicitDefEqProofs only [go_sem, Nat.reduceLT, Nat.reduceAdd, Nat.reduceEqDiff, reduceIte, Nat.reduceMul, Nat.reduceSub, reduceCtorEq, Int.reduceNe, Int.reduceEq, ne_eq, Nat.reduceLeDiff]; with_reducible exact rfl))) | (apply VC.condt; (focus (simp -implicitDefEqProofs only [go_sem, Nat.reduceLT, Nat.reduceAdd, Nat.reduceEqDiff, reduceIte, Nat.reduceMul, Nat.reduceSub, reduceCtorEq, Int.reduceNe, Int.reduceEq, ne_eq, Nat.reduceLeDiff]; with_reducible exact rfl))) | (apply VC.condb; (focus (simp -implicitDefEqProofs only [go_sem, Nat.reduceLT, Nat.reduceAdd, Nat.reduceEqDiff, reduceIte, Nat.reduceMul, Nat.reduceSub, reduceCtorEq, Int.reduceNe, Int.reduceEq, ne_eq, Nat.reduceLeDiff]; exact rfl)))
                                      · intro h; try exact absurd h (by decide)
                                        all_goals
                                          apply VC.regt ΦR_ok [2, 3, 4, 5]; intro K' hK; dsimp only [List.take, List.drop, List.map, strip, stripG]; simp -implicitDefEqProofs only [go_sem, Nat.reduceLT, Nat.reduceAdd, Nat.reduceEqDiff, reduceIte, Nat.reduceMul, Nat.reduceSub, reduceCtorEq, Int.reduceNe, Int.reduceEq, ne_eq, Nat.reduceLeDiff]
                                          (repeat' first | (refine hK _ ?_; clear hK K') | apply And.intro | first | omega | ((try simp only [decide_eq_true_eq, decide_eq_false_iff_not, Bool.not_eq_true', Bool.not_eq_false', Bool.not_eq_eq_eq_not, Bool.not_true, Bool.not_false, Decidable.not_not, ne_eq] at *); omega))
                                          all_goals
                                            apply VC.at
                                            · simp -implicitDefEqProofs only [go_sem, Nat.reduceLT, Nat.reduceAdd, Nat.reduceEqDiff, reduceIte, Nat.reduceMul, Nat.reduceSub, reduceCtorEq, Int.reduceNe, Int.reduceEq, ne_eq, Nat.reduceLeDiff]; (try simp (disch := omega) only [i64_in, tmodn, tdivn]); exact rfl
                                            apply VC.ret
                                            refine thenK_r ?_
                                            refine blockK_r ?_
                                            refine thenK_r ?_
                                            refine thenK_r ?_
                                            refine blockK_r ?_
                                            refine blockK_r ?_
                                            refine thenK_r ?_
                                            refine thenK_r ?_
                                            refine blockK_r ?_
                                            refine thenK_r ?_
                                            simp -implicitDefEqProofs only [go_sem, Nat.reduceLT, Nat.reduceAdd, Nat.reduceEqDiff, reduceIte, Nat.reduceMul, Nat.reduceSub, reduceCtorEq, Int.reduceNe, Int.reduceEq, ne_eq, Nat.reduceLeDiff]
                                            try simp only [List.cons.injEq, Vm.Data.agg.injEq, Vm.Data.int.injEq, Vm.Data.bool.injEq, true_and, and_true]
                                            first | exact date_miss n (by omega) | exact date_end n x y (by omega) (by omega) (by omega) (by omega) | exact date_hit n y m z (by omega) (by omega) (by omega) (by omega) (by omega) (by omega) (by omega)
                                      · intro h; try exact absurd h (by decide)
                                        all_goals
                                          apply VC.skip
                                          refine thenK_n ?_
                                          apply VC.regLast ΦR_ok; intro K' hK; dsimp only [List.take, List.drop, List.map, strip, stripG]; simp -implicitDefEqProofs only [go_sem, Nat.reduceLT, Nat.reduceAdd, Nat.reduceEqDiff, reduceIte, Nat.reduceMul, Nat.reduceSub, reduceCtorEq, Int.reduceNe, Int.reduceEq, ne_eq, Nat.reduceLeDiff]
                                          (repeat' first | (refine hK _ ?_; clear hK K') | apply And.intro | first | omega | ((try simp only [decide_eq_true_eq, decide_eq_false_iff_not, Bool.not_eq_true', Bool.not_eq_false', Bool.not_eq_eq_eq_not, Bool.not_true, Bool.not_false, Decidable.not_not, ne_eq] at *); omega))
                                          all_goals
                                            refine blockK_n ?_
                                            refine thenK_n ?_
                                            apply VC.regLast ΦR_ok; intro K' hK; dsimp only [List.take, List.drop, List.map, strip, stripG]; simp -implicitDefEqProofs only [go_sem, Nat.reduceLT, Nat.reduceAdd, Nat.reduceEqDiff, reduceIte, Nat.reduceMul, Nat.reduceSub, reduceCtorEq, Int.reduceNe, Int.reduceEq, ne_eq, Nat.reduceLeDiff]
                                            (repeat' first | (refine hK _ ?_; clear hK K') | apply And.intro | first | omega | ((try simp only [decide_eq_true_eq, decide_eq_false_iff_not, Bool.not_eq_true', Bool.not_eq_false', Bool.not_eq_eq_eq_not, Bool.not_true, Bool.not_false, Decidable.not_not, ne_eq] at *); omega))
                                            all_goals
                                              refine thenK_n ?_
                                              refine ⟨((z - Cal.long y m), (m + 1)), ?_, Ent.into ?_ rfl rfl rfl rfl, ?_⟩
                                              · dsimp only; have := cs (by omega); omega
                                              · simp -implicitDefEqProofs only [go_sem, Nat.reduceLT, Nat.reduceAdd, Nat.reduceEqDiff, reduceIte, Nat.reduceMul, Nat.reduceSub, reduceCtorEq, Int.reduceNe, Int.reduceEq, ne_eq, Nat.reduceLeDiff]; (try simp (disch := omega) only [and_self, eq_self, i64_in, tmodn, tdivn])
                                              · dsimp only; omega
                                · intro h; try exact absurd h (by decide)
                                  all_goals
                                    apply VC.exit
                                    exfalso; have e : m = 13 := by omega
                                    subst e; have := Cc_13 y; omega
                · intro h; try exact absurd h (by decide)
                  all_goals
                    apply VC.exit
                    refine thenK_e ?_
                    refine thenK_e ?_
                    refine blockK_e ?_
                    refine thenK_n ?_
                    apply VC.regt ΦR_ok [2, 3, 4, 5]; intro K' hK; dsimp only [List.take, List.drop, List.map, strip, stripG]; simp -implicitDefEqProofs only [go_sem, Nat.reduceLT, Nat.reduceAdd, Nat.reduceEqDiff, reduceIte, Nat.reduceMul, Nat.reduceSub, reduceCtorEq, Int.reduceNe, Int.reduceEq, ne_eq, Nat.reduceLeDiff]
                    (repeat' first | (refine hK _ ?_; clear hK K') | apply And.intro | first | omega | ((try simp only [decide_eq_true_eq, decide_eq_false_iff_not, Bool.not_eq_true', Bool.not_eq_false', Bool.not_eq_eq_eq_not, Bool.not_true, Bool.not_false, Decidable.not_not, ne_eq] at *); omega))
                    all_goals
                      apply VC.at
                      · simp -implicitDefEqProofs only [go_sem, Nat.reduceLT, Nat.reduceAdd, Nat.reduceEqDiff, reduceIte, Nat.reduceMul, Nat.reduceSub, reduceCtorEq, Int.reduceNe, Int.reduceEq, ne_eq, Nat.reduceLeDiff]; (try simp (disch := omega) only [i64_in, tmodn, tdivn]); exact rfl
                      apply VC.ret
                      simp -implicitDefEqProofs only [go_sem, Nat.reduceLT, Nat.reduceAdd, Nat.reduceEqDiff, reduceIte, Nat.reduceMul, Nat.reduceSub, reduceCtorEq, Int.reduceNe, Int.reduceEq, ne_eq, Nat.reduceLeDiff]
                      try simp only [List.cons.injEq, Vm.Data.agg.injEq, Vm.Data.int.injEq, Vm.Data.bool.injEq, true_and, and_true]
                      first | exact date_miss n (by omega) | exact date_end n x y (by omega) (by omega) (by omega) (by omega) | exact date_hit n y m z (by omega) (by omega) (by omega) (by omega) (by omega) (by omega) (by omega)
end Go.Proofs.Ytfbodageccednaa.Hd
namespace Go.Proofs.Ytfbodageccednaa.Hd
open Go Go.RowKit Go.Proofs.Ytfbodageccednaa.Vm Go.IntWalk
set_option maxRecDepth 100000
set_option maxHeartbeats 4000000
noncomputable def ΦH : Fns := tab [(9, daysF), (10, rdaysF), (11, dateF), (12, rdateF)]
theorem ΦH_ok : Sound E ΦH := sound_cons (by kernel_rfl) days_ok (sound_cons (by kernel_rfl) rdays_ok (sound_cons (by kernel_rfl) date_ok (sound_cons (by kernel_rfl) rdate_ok (sound_nil))))
@[go_sem] theorem ΦH_9 : ΦH 9 = some daysF := rfl
@[go_sem] theorem ΦH_10 : ΦH 10 = some rdaysF := rfl
@[go_sem] theorem ΦH_11 : ΦH 11 = some dateF := rfl
@[go_sem] theorem ΦH_12 : ΦH 12 = some rdateF := rfl
def hdF : PFn := ⟨fun ds => match ds with | [.int .i64 y, .int .i64 m, .int .i64 d, .int .i64 n] => -9223372036854775808 ≤ d ∧ n ≤ 9223372036854775807 | _ => False, fun ds => match ds with | [.int .i64 y, .int .i64 m, .int .i64 d, .int .i64 n] => [.bool true] | _ => []⟩
@[go_sem] theorem hd_pre (y m d n : Int) : hdF.pre [.int .i64 y, .int .i64 m, .int .i64 d, .int .i64 n] = (-9223372036854775808 ≤ d ∧ n ≤ 9223372036854775807) := rfl
@[go_sem] theorem hd_res (y m d n : Int) : hdF.res [.int .i64 y, .int .i64 m, .int .i64 d, .int .i64 n] = [.bool true] := rfl
theorem hd_ok : Pure E 4 hdF := by
  apply Pure.of_body (rs := [.tmp 8]) (n := 77) Try.func4 rfl rfl rfl
  intro ds hds
  unfold hdF at hds
  dsimp only at hds
  split at hds
  case h_2 => exact hds.elim
  rename_i y m d n
  have hy := hds.1; have hn := hds.2
  refine ⟨Nat.le_of_ble_eq_true rfl, ?_⟩
  show VC E none _ (pureSt 77 _) _
  apply VC.regt ΦH_ok [0, 1, 2, 3]; intro K' hK; dsimp only [List.take, List.drop, List.map, strip, stripG]; simp -implicitDefEqProofs only [go_sem, Nat.reduceLT, Nat.reduceAdd, Nat.reduceEqDiff, reduceIte, Nat.reduceMul, Nat.reduceSub, reduceCtorEq, Int.reduceNe, Int.reduceEq, ne_eq, Nat.reduceLeDiff]
  (repeat' first | (refine hK _ ?_; clear hK K') | apply And.intro | omega)
  all_goals
    apply VC.at
    · simp -implicitDefEqProofs only [go_sem, Nat.reduceLT, Nat.reduceAdd, Nat.reduceEqDiff, reduceIte, Nat.reduceMul, Nat.reduceSub, reduceCtorEq, Int.reduceNe, Int.reduceEq, ne_eq, Nat.reduceLeDiff]; (try simp (disch := omega) only [i64_in, tmodn, tdivn]); exact rfl
    apply VC.regt ΦH_ok [0, 1, 2, 3, 9, 10]; intro K' hK; dsimp only [List.take, List.drop, List.map, strip, stripG]; simp -implicitDefEqProofs only [go_sem, Nat.reduceLT, Nat.reduceAdd, Nat.reduceEqDiff, reduceIte, Nat.reduceMul, Nat.reduceSub, reduceCtorEq, Int.reduceNe, Int.reduceEq, ne_eq, Nat.reduceLeDiff]
    (repeat' first | (refine hK _ ?_; clear hK K') | apply And.intro | omega)
    all_goals
      apply VC.at
      · simp -implicitDefEqProofs only [go_sem, Nat.reduceLT, Nat.reduceAdd, Nat.reduceEqDiff, reduceIte, Nat.reduceMul, Nat.reduceSub, reduceCtorEq, Int.reduceNe, Int.reduceEq, ne_eq, Nat.reduceLeDiff]; (try simp (disch := omega) only [i64_in, tmodn, tdivn]); exact rfl
      apply VC.regt ΦH_ok [3, 9, 10, 11, 12]; intro K' hK; dsimp only [List.take, List.drop, List.map, strip, stripG]; simp -implicitDefEqProofs only [go_sem, Nat.reduceLT, Nat.reduceAdd, Nat.reduceEqDiff, reduceIte, Nat.reduceMul, Nat.reduceSub, reduceCtorEq, Int.reduceNe, Int.reduceEq, ne_eq, Nat.reduceLeDiff]
      (repeat' first | (refine hK _ ?_; clear hK K') | apply And.intro | omega)
      all_goals
        apply VC.at
        · simp -implicitDefEqProofs only [go_sem, Nat.reduceLT, Nat.reduceAdd, Nat.reduceEqDiff, reduceIte, Nat.reduceMul, Nat.reduceSub, reduceCtorEq, Int.reduceNe, Int.reduceEq, ne_eq, Nat.reduceLeDiff]; (try simp (disch := omega) only [i64_in, tmodn, tdivn]); exact rfl
        apply VC.regt ΦH_ok [3, 9, 10, 11, 12, 13, 14, 15, 16]; intro K' hK; dsimp only [List.take, List.drop, List.map, strip, stripG]; simp -implicitDefEqProofs only [go_sem, Nat.reduceLT, Nat.reduceAdd, Nat.reduceEqDiff, reduceIte, Nat.reduceMul, Nat.reduceSub, reduceCtorEq, Int.reduceNe, Int.reduceEq, ne_eq, Nat.reduceLeDiff]
        (repeat' first | (refine hK _ ?_; clear hK K') | apply And.intro | omega)
        all_goals
          apply VC.at
          · simp -implicitDefEqProofs only [go_sem, Nat.reduceLT, Nat.reduceAdd, Nat.reduceEqDiff, reduceIte, Nat.reduceMul, Nat.reduceSub, reduceCtorEq, Int.reduceNe, Int.reduceEq, ne_eq, Nat.reduceLeDiff]; (try simp (disch := omega) only [i64_in, tmodn, tdivn]); exact rfl
          apply VC.regt ΦH_ok [9, 10, 11, 12, 13, 14, 15, 16, 17, 18, 19, 20]; intro K' hK; dsimp only [List.take, List.drop, List.map, strip, stripG]; simp -implicitDefEqProofs only [go_sem, Nat.reduceLT, Nat.reduceAdd, Nat.reduceEqDiff, reduceIte, Nat.reduceMul, Nat.reduceSub, reduceCtorEq, Int.reduceNe, Int.reduceEq, ne_eq, Nat.reduceLeDiff]
          (repeat' first | (refine hK _ ?_; clear hK K') | apply And.intro | omega)
          all_goals
            apply VC.at
            · simp -implicitDefEqProofs only [go_sem, Nat.reduceLT, Nat.reduceAdd, Nat.reduceEqDiff, reduceIte, Nat.reduceMul, Nat.reduceSub, reduceCtorEq, Int.reduceNe, Int.reduceEq, ne_eq, Nat.reduceLeDiff]; (try simp (disch := omega) only [i64_in, tmodn, tdivn]); exact rfl
            apply VC.regt ΦH_ok [8]; intro K' hK; dsimp only [List.take, List.drop, List.map, strip, stripG]; simp only [gtmp, List.getElem?_toArray, List.getElem?_cons_succ, List.getElem?_cons_zero, Option.bind_some]; simp -implicitDefEqProofs only [go_sem, Nat.reduceLT, Nat.reduceAdd, Nat.reduceEqDiff, reduceIte, Nat.reduceMul, Nat.reduceSub, reduceCtorEq, Int.reduceNe, Int.reduceEq, ne_eq, Nat.reduceLeDiff]
            (repeat' first | (refine hK _ ?_; clear hK K') | (first | apply goB_splitD | apply goA_splitD | apply goB_split | apply goA_split | apply goA_all) <;> intro _ <;> simp -implicitDefEqProofs only [go_sem, Nat.reduceLT, Nat.reduceAdd, Nat.reduceEqDiff, reduceIte, Nat.reduceMul, Nat.reduceSub, reduceCtorEq, Int.reduceNe, Int.reduceEq, ne_eq, Nat.reduceLeDiff] | apply And.intro | omega)
            all_goals
              apply VC.at
              · simp -implicitDefEqProofs only [go_sem, Nat.reduceLT, Nat.reduceAdd, Nat.reduceEqDiff, reduceIte, Nat.reduceMul, Nat.reduceSub, reduceCtorEq, Int.reduceNe, Int.reduceEq, ne_eq, Nat.reduceLeDiff]; (try simp (disch := omega) only [i64_in, tmodn, tdivn]); exact rfl
              apply VC.ret
              simp -implicitDefEqProofs only [go_sem, Nat.reduceLT, Nat.reduceAdd, Nat.reduceEqDiff, reduceIte, Nat.reduceMul, Nat.reduceSub, reduceCtorEq, Int.reduceNe, Int.reduceEq, ne_eq, Nat.reduceLeDiff]
end Go.Proofs.Ytfbodageccednaa.Hd


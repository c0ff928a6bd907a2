/- Dates, apart from any program. No condition. -/
import Derived.Test.YtfbodageccednaaDoorVmE
import Derived.Test.YtfbodageccednaaDoorProg
import Derived.WalkKit
import Derived.IntWalk
set_option linter.unusedVariables false
set_option linter.unusedSimpArgs false
namespace Cal
def lp (y : Int) : Int := if y % 4 = 0 ∧ (y % 100 ≠ 0 ∨ y % 400 = 0) then 1 else 0
def Y (y : Int) : Int := 365 * (y - 1970) + ((y - 1) / 4 - (y - 1) / 100 + (y - 1) / 400) - 477
def long (y m : Int) : Int := if m = 2 then 28 + lp y else if m = 4 ∨ m = 6 ∨ m = 9 ∨ m = 11 then 30 else 31
def C (y m : Int) : Int := if m = 1 then 0 else if m = 2 then 31 else (153 * (m - 3) + 2) / 5 + 59 + lp y
def num (y m d : Int) : Int := Y y + C y m + d - 1
theorem lp_01 (y : Int) : 0 ≤ lp y ∧ lp y ≤ 1 := by unfold lp; split <;> omega
theorem Y_succ (y : Int) : Y (y + 1) = Y y + 365 + lp y := by
  unfold Y lp
  split <;> omega
theorem C_succ (y m : Int) (h : 1 ≤ m) (h' : m ≤ 11) : C y (m + 1) = C y m + long y m := by
  have := lp_01 y
  obtain rfl | rfl | rfl | rfl | rfl | rfl | rfl | rfl | rfl | rfl | rfl : m = 1 ∨ m = 2 ∨ m = 3 ∨ m = 4 ∨ m = 5 ∨ m = 6 ∨ m = 7 ∨ m = 8 ∨ m = 9 ∨ m = 10 ∨ m = 11 := by omega
  all_goals simp [C, long] <;> omega
theorem C_12 (y : Int) : C y 12 + long y 12 = 365 + lp y := by simp [C, long]; omega
-- the program's words
def farF (y m d : Int) : Int := 365 * y + y / 4 - y / 100 + y / 400 + (153 * (m - 3) + 2) / 5 + d - 1 - 719468
theorem far_lo (y m d : Int) (h : 1 ≤ m) (h' : m < 3) : farF (y - 1) (m + 12) d = num y m d := by
  have hl : y = y := rfl
  unfold farF num Y C
  obtain rfl | rfl : m = 1 ∨ m = 2 := by omega
  all_goals simp <;> omega
theorem far_hi (y m d : Int) (h : 3 ≤ m) : farF y m d = num y m d := by
  unfold farF num Y C lp
  rw [if_neg (by omega), if_neg (by omega)]
  split <;> omega
/-- year of the era, of its left days -/
def yoe (l : Int) : Int := (l - l / 1460 + l / 36524 - l / 146096) / 365
def doy (l : Int) : Int := l - (365 * yoe l + yoe l / 4 - yoe l / 100)
theorem yoe_range (l : Int) (h0 : 0 ≤ l) (h1 : l ≤ 146096) : 0 ≤ yoe l ∧ yoe l ≤ 399 := by
  unfold yoe; omega
theorem yoe_split (l : Int) (h0 : 0 ≤ l) (h1 : l ≤ 146096) : ∃ c q r, l = 36524 * c + 1461 * q + r ∧ 0 ≤ c ∧ c ≤ 3 ∧ 0 ≤ q ∧ q ≤ 24 ∧ 0 ≤ r ∧ r ≤ 1460 ∧ (c = 3 ∨ q < 24 ∨ r ≤ 1459) := by
  refine ⟨if l = 146096 then 3 else l / 36524, (if l = 146096 then 36524 else l % 36524) / 1461, (if l = 146096 then 36524 else l % 36524) % 1461, ?_⟩
  split <;> omega
theorem yoe_eq (c q r : Int) (hc : 0 ≤ c) (hc' : c ≤ 3) (hq : 0 ≤ q) (hq' : q ≤ 24) (hr : 0 ≤ r) (hr' : r ≤ 1460) (h : c = 3 ∨ q < 24 ∨ r ≤ 1459) :
    yoe (36524 * c + 1461 * q + r) = 100 * c + 4 * q + (if r = 1460 then 3 else r / 365) := by
  unfold yoe
  have h2 : (36524 * c + 1461 * q + r) / 36524 = c + (if c = 3 ∧ q = 24 ∧ r = 1460 then 1 else 0) := by split <;> omega
  have h3 : (36524 * c + 1461 * q + r) / 146096 = (if c = 3 ∧ q = 24 ∧ r = 1460 then 1 else 0) := by split <;> omega
  rw [h2, h3]
  obtain rfl | rfl | rfl | rfl : c = 0 ∨ c = 1 ∨ c = 2 ∨ c = 3 := by omega
  all_goals split <;> split <;> omega
def atL (n : Int) : Int := (n + 719468) % 146097
def atYr (n : Int) : Int := yoe (atL n) + (n + 719468) / 146097 * 400
def atMp (n : Int) : Int := (5 * doy (atL n) + 2) / 153
def atD (n : Int) : Int := doy (atL n) - (153 * atMp n + 2) / 5 + 1
def atY (n : Int) : Int := if atMp n + 3 > 12 then atYr n + 1 else atYr n
def atM (n : Int) : Int := if atMp n + 3 > 12 then atMp n + 3 - 12 else atMp n + 3
theorem doy_range (l Q : Int) (h0 : 0 ≤ l) (h1 : l ≤ 146096) : 0 ≤ doy l ∧ doy l ≤ 364 + lp (yoe l + Q * 400 + 1) := by
  obtain ⟨c, q, r, rfl, hc, hc', hq, hq', hr, hr', h⟩ := yoe_split l h0 h1
  unfold doy
  rw [yoe_eq c q r hc hc' hq hq' hr hr' h]
  unfold lp
  by_cases hr : r = 1460
  · rw [if_pos hr]
    obtain rfl | rfl | rfl | rfl : c = 0 ∨ c = 1 ∨ c = 2 ∨ c = 3 := by omega
    all_goals split <;> omega
  · rw [if_neg hr]
    have hs : 0 ≤ r / 365 ∧ r / 365 ≤ 3 := by omega
    have h4 : (100 * c + 4 * q + r / 365) / 4 = 25 * c + q := by omega
    have h100 : (100 * c + 4 * q + r / 365) / 100 = c := by omega
    rw [h4, h100]
    split <;> omega
theorem at_ok (n : Int) (_h0 : 0 ≤ n) (_h1 : n ≤ 2932896) :
    num (atY n) (atM n) (atD n) = n ∧ 1 ≤ atM n ∧ atM n ≤ 12 ∧ 1 ≤ atD n ∧ atD n ≤ long (atY n) (atM n) := by
  have hl0 : 0 ≤ atL n ∧ atL n ≤ 146096 := by unfold atL; omega
  have hy := yoe_range (atL n) hl0.1 hl0.2
  have hd := doy_range (atL n) ((n + 719468) / 146097) hl0.1 hl0.2
  have hlp := lp_01 (yoe (atL n) + (n + 719468) / 146097 * 400 + 1)
  have hmp : 0 ≤ atMp n ∧ atMp n ≤ 11 := by unfold atMp; omega
  have hfar : ∀ x, x = atYr n → farF x (atMp n + 3) (atD n) = n := by
    intro x hx; subst hx
    unfold farF atD atYr
    have e : doy (atL n) = atL n - (365 * yoe (atL n) + yoe (atL n) / 4 - yoe (atL n) / 100) := rfl
    have e2 : atL n = (n + 719468) % 146097 := rfl
    have k1 : (yoe (atL n) + (n + 719468) / 146097 * 400) / 4 = yoe (atL n) / 4 + (n + 719468) / 146097 * 100 := by omega
    have k2 : (yoe (atL n) + (n + 719468) / 146097 * 400) / 100 = yoe (atL n) / 100 + (n + 719468) / 146097 * 4 := by omega
    have k3 : (yoe (atL n) + (n + 719468) / 146097 * 400) / 400 = (n + 719468) / 146097 := by omega
    have k4 : (153 * (atMp n + 3 - 3) + 2) / 5 = (153 * atMp n + 2) / 5 := by rw [show atMp n + 3 - 3 = atMp n by omega]
    rw [k1, k2, k3, k4]
    omega
  by_cases hm : atMp n + 3 > 12
  · have hY : atY n = atYr n + 1 := by unfold atY; rw [if_pos hm]
    have hM : atM n = atMp n + 3 - 12 := by unfold atM; rw [if_pos hm]
    have hf := hfar (atYr n) rfl
    have hlo := far_lo (atYr n + 1) (atMp n + 3 - 12) (atD n) (by omega) (by omega)
    rw [show atYr n + 1 - 1 = atYr n by omega, show atMp n + 3 - 12 + 12 = atMp n + 3 by omega, hf] at hlo
    refine ⟨by rw [hY, hM]; exact hlo.symm, by omega, by omega, ?_, ?_⟩
    · unfold atD; unfold atMp; omega
    · rw [hY, hM]
      have hy2 : atYr n + 1 = yoe (atL n) + (n + 719468) / 146097 * 400 + 1 := rfl
      rw [hy2]
      unfold long atD
      have : atMp n = 10 ∨ atMp n = 11 := by omega
      have e : atMp n = (5 * doy (atL n) + 2) / 153 := rfl
      rcases this with h | h <;> rw [h] <;> rw [h] at e <;> simp <;> omega
  · have hY : atY n = atYr n := by unfold atY; rw [if_neg hm]
    have hM : atM n = atMp n + 3 := by unfold atM; rw [if_neg hm]
    have hhi := far_hi (atYr n) (atMp n + 3) (atD n) (by omega)
    rw [hfar _ rfl] at hhi
    refine ⟨by rw [hY, hM]; exact hhi.symm, by omega, by omega, ?_, ?_⟩
    · unfold atD; unfold atMp; omega
    · rw [hY, hM]
      unfold long atD
      have e : atMp n = (5 * doy (atL n) + 2) / 153 := rfl
      have : atMp n = 0 ∨ atMp n = 1 ∨ atMp n = 2 ∨ atMp n = 3 ∨ atMp n = 4 ∨ atMp n = 5 ∨ atMp n = 6 ∨ atMp n = 7 ∨ atMp n = 8 ∨ atMp n = 9 := by omega
      rcases this with h | h | h | h | h | h | h | h | h | h <;> rw [h] <;> rw [h] at e <;> simp <;> omega
theorem C_range (y m d : Int) (hm : 1 ≤ m) (hm' : m ≤ 12) (hd : 1 ≤ d) (hd' : d ≤ long y m) : 0 ≤ C y m + d - 1 ∧ C y m + d - 1 < 365 + lp y := by
  have := lp_01 y
  obtain rfl | rfl | rfl | rfl | rfl | rfl | rfl | rfl | rfl | rfl | rfl | rfl : m = 1 ∨ m = 2 ∨ m = 3 ∨ m = 4 ∨ m = 5 ∨ m = 6 ∨ m = 7 ∨ m = 8 ∨ m = 9 ∨ m = 10 ∨ m = 11 ∨ m = 12 := by omega
  all_goals (simp [long] at hd'; simp [C]; omega)
theorem Y_mono (a b : Int) (h : a < b) : Y (a + 1) ≤ Y b := by unfold Y; omega
theorem num_inj (y m d y' m' d' : Int) (hm : 1 ≤ m) (hm1 : m ≤ 12) (hd : 1 ≤ d) (hd1 : d ≤ long y m) (hm' : 1 ≤ m') (hm1' : m' ≤ 12) (hd' : 1 ≤ d') (hd1' : d' ≤ long y' m')
    (h : num y m d = num y' m' d') : y = y' ∧ m = m' ∧ d = d' := by
  have r := C_range y m d hm hm1 hd hd1
  have r' := C_range y' m' d' hm' hm1' hd' hd1'
  have s := Y_succ y
  have s' := Y_succ y'
  have hy : y = y' := by
    rcases Int.lt_trichotomy y y' with g | g | g
    · have := Y_mono y y' g; unfold num at h; omega
    · exact g
    · have := Y_mono y' y g; unfold num at h; omega
  subst hy
  have hl := lp_01 y
  have hk : C y m + d = C y m' + d' := by unfold num at h; omega
  have hmm : m = m' := by
    rcases Int.lt_trichotomy m m' with g | g | g
    · have : C y m + long y m ≤ C y m' := by
        have key : ∀ k : Nat, m + 1 + k ≤ 12 → C y m + long y m ≤ C y (m + 1 + k) := by
          intro k
          induction k with
          | zero => intro hk; have := C_succ y m hm (by omega); simp; omega
          | succ k ih =>
            intro hk
            have h1 := ih (by omega)
            have h2 := C_succ y (m + 1 + k) (by omega) (by omega)
            have h3 : 0 ≤ long y (m + 1 + k) := by unfold long; split <;> (try split) <;> omega
            have h4 : m + 1 + ((k + 1 : Nat) : Int) = m + 1 + k + 1 := by omega
            rw [h4]; omega
        have := key (m' - m - 1).toNat (by omega)
        rw [show m + 1 + ((m' - m - 1).toNat : Int) = m' by omega] at this
        exact this
      omega
    · exact g
    · have : C y m' + long y m' ≤ C y m := by
        have key : ∀ k : Nat, m' + 1 + k ≤ 12 → C y m' + long y m' ≤ C y (m' + 1 + k) := by
          intro k
          induction k with
          | zero => intro hk; have := C_succ y m' hm' (by omega); simp; omega
          | succ k ih =>
            intro hk
            have h1 := ih (by omega)
            have h2 := C_succ y (m' + 1 + k) (by omega) (by omega)
            have h3 : 0 ≤ long y (m' + 1 + k) := by unfold long; split <;> (try split) <;> omega
            have h4 : m' + 1 + ((k + 1 : Nat) : Int) = m' + 1 + k + 1 := by omega
            rw [h4]; omega
        have := key (m - m' - 1).toNat (by omega)
        rw [show m' + 1 + ((m - m' - 1).toNat : Int) = m by omega] at this
        exact this
      omega
  subst hmm
  exact ⟨rfl, rfl, by omega⟩
theorem year_range (n y m d : Int) (h0 : 0 ≤ n) (h1 : n ≤ 2932896) (hm : 1 ≤ m) (hm' : m ≤ 12) (hd : 1 ≤ d) (hd' : d ≤ long y m) (h : num y m d = n) : 1970 ≤ y ∧ y ≤ 9999 := by
  have r := C_range y m d hm hm' hd hd'
  have s := Y_succ y
  unfold num at h
  constructor
  · by_cases g : 1970 ≤ y
    · exact g
    · have := Y_mono y 1970 (by omega); have e : Y 1970 = 0 := by decide
      omega
  · by_cases g : y ≤ 9999
    · exact g
    · have := Y_mono 9999 y (by omega); have e : Y (9999 + 1) = 2932897 := by decide
      omega
/-- a date has a number of its range -/
theorem num_range (y m d : Int) (hy : 1970 ≤ y) (hy' : y ≤ 9999) (hm : 1 ≤ m) (hm' : m ≤ 12) (hd : 1 ≤ d) (hd' : d ≤ long y m) : 0 ≤ num y m d ∧ num y m d ≤ 2932896 := by
  have r := C_range y m d hm hm' hd hd'
  have s := Y_succ y
  have e : Y 1970 = 0 := by decide
  have e2 : Y (9999 + 1) = 2932897 := by decide
  have a1 : Y 1970 ≤ Y y := by unfold Y; omega
  have a2 := Y_mono y 10000 (by omega)
  rw [show (10000 : Int) = 9999 + 1 by rfl, e2] at a2
  unfold num; omega
theorem at_num (y m d : Int) (hy : 1970 ≤ y) (hy' : y ≤ 9999) (hm : 1 ≤ m) (hm' : m ≤ 12) (hd : 1 ≤ d) (hd' : d ≤ long y m) :
    atY (num y m d) = y ∧ atM (num y m d) = m ∧ atD (num y m d) = d := by
  have r := num_range y m d hy hy' hm hm' hd hd'
  obtain ⟨a, b, c, e, f⟩ := at_ok (num y m d) r.1 r.2
  exact num_inj _ _ _ _ _ _ b c e f hm hm' hd hd' a
end Cal
namespace Go.Proofs.YtfbodageccednaaDoor.Oa
open Go Go.RowKit Go.Proofs.YtfbodageccednaaDoor.Vm Go.IntWalk
set_option maxRecDepth 100000
set_option maxHeartbeats 4000000
def powD : List Vm.Data := (List.range 20).map fun j => .int .u64 ((10 ^ j : Nat) : Int)
def errD : Vm.Data := .iface 136 (.ptr [])
def Gl : Nat → Option (List Vm.Data) := fun g => if g = 3 then some powD else if g = 0 then some [errD] else if g = 1 then some [errD] else none
noncomputable def E : Env := ⟨Tryd.prog, Gl⟩
@[go_sem] theorem E_P : E.P = Tryd.prog := rfl
theorem tmodn {a b : Int} (h : 0 ≤ a) : a.tmod b = a % b := Int.tmod_eq_emod_of_nonneg h
theorem tdivn {a b : Int} (h : 0 ≤ a) : a.tdiv b = a / b := Int.tdiv_eq_ediv_of_nonneg h
@[go_sem] theorem k2 : kindT Tryd.prog 2 = .int .i64 := by kernel_rfl
@[go_sem] theorem s2 : szT Tryd.prog 2 = 1 := by kernel_rfl
@[go_sem] theorem p2 : posT Tryd.prog 2 = true := by kernel_rfl
@[go_sem] theorem b2 : bytesT Tryd.prog 2 = 8 := by kernel_rfl
@[go_sem] theorem k3 : kindT Tryd.prog 3 = .int .i64 := by kernel_rfl
@[go_sem] theorem s3 : szT Tryd.prog 3 = 1 := by kernel_rfl
@[go_sem] theorem p3 : posT Tryd.prog 3 = true := by kernel_rfl
@[go_sem] theorem b3 : bytesT Tryd.prog 3 = 8 := by kernel_rfl
@[go_sem] theorem k4 : kindT Tryd.prog 4 = .bool := by kernel_rfl
@[go_sem] theorem s4 : szT Tryd.prog 4 = 1 := by kernel_rfl
@[go_sem] theorem p4 : posT Tryd.prog 4 = true := by kernel_rfl
@[go_sem] theorem b4 : bytesT Tryd.prog 4 = 1 := by kernel_rfl
@[go_sem] theorem k5 : kindT Tryd.prog 5 = .int .u8 := by kernel_rfl
@[go_sem] theorem s5 : szT Tryd.prog 5 = 1 := by kernel_rfl
@[go_sem] theorem p5 : posT Tryd.prog 5 = true := by kernel_rfl
@[go_sem] theorem b5 : bytesT Tryd.prog 5 = 1 := by kernel_rfl
@[go_sem] theorem k9 : kindT Tryd.prog 9 = .str := by kernel_rfl
@[go_sem] theorem s9 : szT Tryd.prog 9 = 1 := by kernel_rfl
@[go_sem] theorem p9 : posT Tryd.prog 9 = true := by kernel_rfl
@[go_sem] theorem b9 : bytesT Tryd.prog 9 = 16 := by kernel_rfl
@[go_sem] theorem k22 : kindT Tryd.prog 22 = .int .u64 := by kernel_rfl
@[go_sem] theorem s22 : szT Tryd.prog 22 = 1 := by kernel_rfl
@[go_sem] theorem p22 : posT Tryd.prog 22 = true := by kernel_rfl
@[go_sem] theorem b22 : bytesT Tryd.prog 22 = 8 := by kernel_rfl
@[go_sem] theorem k50 : kindT Tryd.prog 50 = .struct [(0, 3), (1, 3), (2, 3)] := by kernel_rfl
@[go_sem] theorem s50 : szT Tryd.prog 50 = 3 := by kernel_rfl
@[go_sem] theorem p50 : posT Tryd.prog 50 = true := by kernel_rfl
@[go_sem] theorem b50 : bytesT Tryd.prog 50 = 24 := by kernel_rfl
@[go_sem] theorem k57 : kindT Tryd.prog 57 = .slice 3 := by kernel_rfl
@[go_sem] theorem s57 : szT Tryd.prog 57 = 1 := by kernel_rfl
@[go_sem] theorem p57 : posT Tryd.prog 57 = true := by kernel_rfl
@[go_sem] theorem b57 : bytesT Tryd.prog 57 = 24 := by kernel_rfl
@[go_sem] theorem k24 : kindT Tryd.prog 24 = .int .i64 := by kernel_rfl
@[go_sem] theorem s24 : szT Tryd.prog 24 = 1 := by kernel_rfl
@[go_sem] theorem p24 : posT Tryd.prog 24 = true := by kernel_rfl
@[go_sem] theorem b24 : bytesT Tryd.prog 24 = 8 := by kernel_rfl
@[go_sem] theorem z50 : zeroT Tryd.prog 50 = some [.dat (.int .i64 0), .dat (.int .i64 0), .dat (.int .i64 0)] := by kernel_rfl
@[go_sem] theorem z9 : zeroT Tryd.prog 9 = some [.dat (.str [])] := by kernel_rfl
@[go_sem] theorem z3 : zeroT Tryd.prog 3 = some [.dat (.int .i64 0)] := by kernel_rfl
@[go_sem] theorem z2 : zeroT Tryd.prog 2 = some [.dat (.int .i64 0)] := by kernel_rfl
@[go_sem] theorem z57 : zeroT Tryd.prog 57 = some [.nilsl] := by kernel_rfl
@[go_sem] theorem e57 : elemT Tryd.prog 57 = some (3, 1) := by kernel_rfl
@[go_sem] theorem eqDT : structEqOK Tryd.prog 50 = true := by kernel_rfl
open Cal in
theorem C_range31 (y m d : Int) (hm : 1 ≤ m) (hm' : m ≤ 12) (hd : 1 ≤ d) (hd' : d ≤ 31) : 0 ≤ C y m + d - 1 ∧ C y m + d - 1 < 365 + lp y := by
  have := lp_01 y
  obtain rfl | rfl | rfl | rfl | rfl | rfl | rfl | rfl | rfl | rfl | rfl | rfl : m = 1 ∨ m = 2 ∨ m = 3 ∨ m = 4 ∨ m = 5 ∨ m = 6 ∨ m = 7 ∨ m = 8 ∨ m = 9 ∨ m = 10 ∨ m = 11 ∨ m = 12 := by omega
  all_goals (simp [C]; omega)
open Cal in
theorem num_range31 (y m d : Int) (hy : 1970 ≤ y) (hy' : y ≤ 9999) (hm : 1 ≤ m) (hm' : m ≤ 12) (hd : 1 ≤ d) (hd' : d ≤ 31) : 0 ≤ num y m d ∧ num y m d ≤ 2932896 := by
  have r := C_range31 y m d hm hm' hd hd'
  have s := Y_succ y
  have e : Y 1970 = 0 := by decide
  have e2 : Y (9999 + 1) = 2932897 := by decide
  have a1 : Y 1970 ≤ Y y := by unfold Y; omega
  have a2 := Y_mono y 10000 (by omega)
  rw [show (10000 : Int) = 9999 + 1 by rfl, e2] at a2
  unfold num; omega
def dateOk (y m d : Int) : Bool := decide (1970 ≤ y ∧ y ≤ 9999 ∧ 1 ≤ m ∧ m ≤ 12 ∧ 1 ≤ d ∧ d ≤ Cal.long y m)
open Cal in
theorem long_le (y m : Int) : 28 ≤ long y m ∧ long y m ≤ 31 := by have := lp_01 y; unfold long; split <;> (try split) <;> omega
open Cal in
theorem is_same (y m d : Int) (a : 1970 ≤ y) (b : y ≤ 9999) (c : 1 ≤ m) (e : m ≤ 12) (f : 1 ≤ d) (g : d ≤ 31) : (decide (atY (num y m d) = y) && (decide (atM (num y m d) = m) && decide (atD (num y m d) = d))) = dateOk y m d := by
  have r := num_range31 y m d a b c e f g
  obtain ⟨h1, h2, h3, h4, h5⟩ := at_ok _ r.1 r.2
  rw [Bool.eq_iff_iff]
  simp only [Bool.and_eq_true, decide_eq_true_eq, dateOk]
  constructor
  · rintro ⟨p, q, s⟩
    rw [p, q, s] at h5
    exact ⟨a, b, c, e, f, h5⟩
  · rintro ⟨_, _, _, _, _, h⟩
    exact at_num y m d a b c e f h
theorem is_none (y m d : Int) (h : ¬ (1970 ≤ y ∧ y ≤ 9999 ∧ 1 ≤ m ∧ m ≤ 12 ∧ 1 ≤ d ∧ d ≤ 31)) : dateOk y m d = false := by
  have := long_le y m
  simp only [dateOk, decide_eq_false_iff_not]
  omega
def daysA (y m d : Int) : Int := if dateOk y m d then Cal.num y m d else 0
def daysE (y m d : Int) : Int := if dateOk y m d then 0 else 150
def dateIn (n : Int) : Bool := decide (0 ≤ n ∧ n ≤ 2932896)
def dateY (n : Int) : Int := if dateIn n then Cal.atY n else 0
def dateM (n : Int) : Int := if dateIn n then Cal.atM n else 0
def dateD (n : Int) : Int := if dateIn n then Cal.atD n else 0
def dateE (n : Int) : Int := if dateIn n then 0 else 150
theorem leap_dec (y : Int) (h : 0 ≤ y) : (y % 4 = 0 ∧ y % 100 ≠ 0 ∨ y % 400 = 0) ↔ Cal.lp y = 1 := by
  unfold Cal.lp
  split <;> omega
end Go.Proofs.YtfbodageccednaaDoor.Oa


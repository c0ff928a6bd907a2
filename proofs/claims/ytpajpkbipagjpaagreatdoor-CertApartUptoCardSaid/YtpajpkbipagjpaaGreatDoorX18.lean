/- What functions of the program, of its library and of the document compute: their contracts, and laws about what they compute (X18). No condition. -/
import Derived.Test.YtpajpkbipagjpaaGreatDoorX17
import Derived.Test.YtpajpkbipagjpaaGreatDoorX04
import Derived.Test.YtpajpkbipagjpaaGreatDoorX16
import Derived.Test.YtpajpkbipagjpaaGreatDoorX13
set_option linter.unusedVariables false
set_option linter.unusedSimpArgs false
namespace Go.Proofs.YtpajpkbipagjpaaGreatDoor.Oc
open Go Go.RowKit Go.Proofs.YtpajpkbipagjpaaGreatDoor.Vm Go.Proofs.YtpajpkbipagjpaaGreatDoor.Tr Go.IntWalk
set_option maxRecDepth 100000
set_option maxHeartbeats 4000000
def utcB (b : List UInt8) : Bool := if ¬ b.length = 13 ∨ ¬ (b.getD 12 0).toNat = 90 ∨ numT (b.take 2) < 0 then false else dateB (1900 + if numT (b.take 2) < 50 then numT (b.take 2) + 100 else numT (b.take 2)) ((b.drop 2).take 10)
def momP (p : List UInt8) : Bool := decide (p = []) || (decide (¬ p.length < 2) && (decide ((p.getD 0 0).toNat = 46) && (decide (Lib.trimS (p.drop 1) [48, 49, 50, 51, 52, 53, 54, 55, 56, 57] = []) && !Lib.hasSuffix p [48])))
def momS (s : List UInt8) : Bool := momP (s.drop 14) && (decide (0 ≤ numT (s.take 2) ∧ 0 ≤ numT ((s.drop 2).take 2)) && dateB (100 * numT (s.take 2) + numT ((s.drop 2).take 2)) ((s.drop 4).take 10))
def momB (b : List UInt8) : Bool := if Lib.hasSuffix b [90] = false ∨ (Lib.trimSuffix b [90]).length < 14 then false else momS (Lib.trimSuffix b [90])
theorem utc_no {b : List UInt8} (h : ¬ (b.length : Int) = 13 ∨ ¬ ((b.getD 12 0).toNat : Int) = 90 ∨ numT (b.take 2) < 0) : utcB b = false := if_pos (by omega)
theorem utc_yes {b : List UInt8} (h : ¬ (¬ (b.length : Int) = 13 ∨ ¬ ((b.getD 12 0).toNat : Int) = 90 ∨ numT (b.take 2) < 0)) : utcB b = dateB (1900 + if numT (b.take 2) < 50 then numT (b.take 2) + 100 else numT (b.take 2)) ((b.drop 2).take 10) := if_neg (by omega)
theorem tkl {b : List UInt8} {k n : Nat} (h : k + n ≤ b.length) : ((b.drop k).take n).length = n := by rw [List.length_take, List.length_drop]; omega
theorem tsuf_len (b : List UInt8) : (Lib.trimSuffix b [90]).length ≤ b.length := by
 unfold Lib.trimSuffix
 split
 ·rw [List.length_take]; omega
 ·omega
noncomputable def ΦUT : Fns := tab [(333, numberF), (334, dateTF), (335, csufF), (337, hsufF), (336, trimF)]
theorem ΦUT_ok : Sound E ΦUT := sound_cons (by kernel_rfl) number_ok (sound_cons (by kernel_rfl) dateT_ok (sound_cons (by kernel_rfl) csuf_ok (sound_cons (by kernel_rfl) hsuf_ok (sound_cons (by kernel_rfl) trim_ok (sound_nil)))))
@[go_sem] theorem ΦUT_r : ΦUT 333 = some numberF ∧ ΦUT 334 = some dateTF ∧ ΦUT 335 = some csufF ∧ ΦUT 337 = some hsufF ∧ ΦUT 336 = some trimF := ⟨rfl, rfl, rfl, rfl, rfl⟩
@[go_sem] noncomputable def utccF : PFn := PF [SY] (fun (b : List UInt8) => b.length ≤ 100000000) (fun (b : List UInt8) => [.bool (utcB b)])
theorem utcc_ok : Pure E 305 utccF := Pure.of_sig (rs := [.tmp 2]) (n := 29) Tryz.func305 rfl rfl rfl (Nat.le_of_ble_eq_true rfl) (by
 intro (b : List UInt8) hds
 have hn := numT_in (b.take 2)
 refine st0 ?_
 refine rg ΦUT_ok [0] trivial ?_
 by_cases h13 : (b.length : Int) = 13
 all_goals
  refine rB ΦUT_ok [0, 12] (And.intro h13 (by decide : Int.toNat 12 = 12)) fun K' hK => ?_
  repeat' first | (refine lf hK (And.intro h13 (by decide : Int.toNat 12 = 12)) ?_; clear hK K') | with_reducible apply And.intro | refine sA (And.intro h13 (by decide : Int.toNat 12 = 12)) (fun _ => ?_) fun _ => ?_ | refine sAb (And.intro h13 (by decide : Int.toNat 12 = 12)) (fun _ => ?_) fun _ => ?_ | refine sAl (And.intro h13 (by decide : Int.toNat 12 = 12)) (fun g => ?_) fun g => ?_ | exact sd | exact sde (And.intro h13 (by decide : Int.toNat 12 = 12)) | exact sdp (And.intro h13 (by decide : Int.toNat 12 = 12)) | refine stk (And.intro h13 (by decide : Int.toNat 12 = 12)) ?_ | fail
  all_goals
   refine cn ?_ ?_
   ·intro h; try exact na h
    all_goals
     have hy : utcB b = false := utc_no (by (try simp only [Bool.not_eq_eq_eq_not, Bool.not_true, Bool.not_false, decide_eq_false_iff_not, decide_eq_true_eq] at *); omega)
     refine rg ΦUT_ok [2] trivial ?_
     refine fi trivial ?_
     all_goals
      (try simp only [show (12 - 2 : Int).toNat = 10 from rfl, show (4 - 2 : Int).toNat = 2 from rfl, show (14 - 4 : Int).toNat = 10 from rfl, show Int.toNat 1 = 1 from rfl, show Int.toNat 2 = 2 from rfl, show Int.toNat 4 = 4 from rfl, show Int.toNat 12 = 12 from rfl, show Int.toNat 14 = 14 from rfl] at *
       first | (rw [hy]; done) | (simp_all; done))
   ·intro h; try exact na h
    all_goals
     have hl : (b.length : Int) = 13 ∧ ((b.getD 12 0).toNat : Int) = 90 := by (try simp only [Bool.not_eq_eq_eq_not, Bool.not_true, Bool.not_false, decide_eq_false_iff_not, decide_eq_true_eq] at *); omega
     have ht2 : (b.take 2).length = 2 := tkl (k := 0) (by omega)
     refine rg ΦUT_ok [0, 3] (And.intro (by decide : Int.toNat 2 = 2) ht2) ?_
     refine rg ΦUT_ok [0, 3, 18] trivial ?_
     refine cn ?_ ?_
     ·intro h; try exact na h
      all_goals
       have hy : utcB b = false := utc_no (by (try simp only [Bool.not_eq_eq_eq_not, Bool.not_true, Bool.not_false, decide_eq_false_iff_not, decide_eq_true_eq] at *); omega)
       refine rg ΦUT_ok [2] trivial ?_
       refine fi trivial ?_
       all_goals
        (try simp only [show (12 - 2 : Int).toNat = 10 from rfl, show (4 - 2 : Int).toNat = 2 from rfl, show (14 - 4 : Int).toNat = 10 from rfl, show Int.toNat 1 = 1 from rfl, show Int.toNat 2 = 2 from rfl, show Int.toNat 4 = 4 from rfl, show Int.toNat 12 = 12 from rfl, show Int.toNat 14 = 14 from rfl] at *
         first | (rw [hy]; done) | (simp_all; done))
     ·intro h; try exact na h
      all_goals
       have hy := utc_yes (b := b) (by (try simp only [Bool.not_eq_eq_eq_not, Bool.not_true, Bool.not_false, decide_eq_false_iff_not, decide_eq_true_eq] at *); omega)
       have ht3 : ((b.drop 2).take 10).length = 10 := tkl (by omega)
       have htn : (12 - 2 : Int).toNat = 10 ∧ Int.toNat 2 = 2 := ⟨rfl, rfl⟩
       refine rg ΦUT_ok [0, 3, 20] trivial ?_
       refine cn ?_ ?_
       ·intro h; try exact na h
        all_goals
         refine rgL ΦUT_ok trivial ?_
         refine rg ΦUT_ok [2] (And.intro htn ht3) ?_
         refine fi trivial ?_
         all_goals
          (try simp only [show (12 - 2 : Int).toNat = 10 from rfl, show (4 - 2 : Int).toNat = 2 from rfl, show (14 - 4 : Int).toNat = 10 from rfl, show Int.toNat 1 = 1 from rfl, show Int.toNat 2 = 2 from rfl, show Int.toNat 4 = 4 from rfl, show Int.toNat 12 = 12 from rfl, show Int.toNat 14 = 14 from rfl] at *
           first | (rw [hy]; done) | (simp_all; done))
       ·intro h; try exact na h
        all_goals
         refine rg ΦUT_ok [2] (And.intro htn ht3) ?_
         refine fi trivial ?_
         all_goals
          (try simp only [show (12 - 2 : Int).toNat = 10 from rfl, show (4 - 2 : Int).toNat = 2 from rfl, show (14 - 4 : Int).toNat = 10 from rfl, show Int.toNat 1 = 1 from rfl, show Int.toNat 2 = 2 from rfl, show Int.toNat 4 = 4 from rfl, show Int.toNat 12 = 12 from rfl, show Int.toNat 14 = 14 from rfl] at *
           first | (rw [hy]; done) | (simp_all; done)))
theorem mom_no1 {b : List UInt8} (h : Lib.hasSuffix b [90] = false ∨ ((Lib.trimSuffix b [90]).length : Int) < 14) : momB b = false := if_pos (h.imp id fun h => by omega)
theorem mom_yes1 {b : List UInt8} (h : ¬ (Lib.hasSuffix b [90] = false ∨ ((Lib.trimSuffix b [90]).length : Int) < 14)) : momB b = momS (Lib.trimSuffix b [90]) := if_neg fun h' => h (h'.imp id fun h => by omega)
theorem hs0 : (([48] : List UInt8)).length < 4294967281 := by decide
@[go_sem] noncomputable def momcF : PFn := PF [SY] (fun (b : List UInt8) => b.length ≤ 100000000) (fun (b : List UInt8) => [.bool (momB b)])
theorem momc_ok : Pure E 306 momcF := Pure.of_sig (rs := [.tmp 2]) (n := 64) Tryz.func306 rfl rfl rfl (Nat.le_of_ble_eq_true rfl) (by
 intro (b : List UInt8) hds
 have hsl := tsuf_len b
 obtain ⟨s, hs⟩ : ∃ s, Lib.trimSuffix b [90] = s := ⟨_, rfl⟩
 rw [hs] at hsl
 refine st0 ?_
 refine rg ΦUT_ok [0] trivial ?_
 refine rg ΦUT_ok [3, 4] hs ?_
 refine rB ΦUT_ok [3, 20] trivial fun K' hK => ?_
 repeat' first | (refine lf hK trivial ?_; clear hK K') | with_reducible apply And.intro | refine sA trivial (fun _ => ?_) fun _ => ?_ | refine sAb trivial (fun _ => ?_) fun _ => ?_ | refine sAl trivial (fun g => ?_) fun g => ?_ | exact sd | exact sde trivial | exact sdp trivial | refine stk trivial ?_ | fail
 all_goals
  refine cn ?_ ?_
  ·intro h; try exact na h
   all_goals
    have hy : momB b = false := mom_no1 (by rw [hs]; (try simp only [Bool.not_eq_eq_eq_not, Bool.not_true, Bool.not_false, decide_eq_false_iff_not, decide_eq_true_eq] at *); first | (left; assumption) | (right; omega) | (simp_all; done))
    refine rg ΦUT_ok [2] trivial ?_
    refine fi trivial ?_
    all_goals first
     | (rw [hy]; done)
     | (rw [hm]; unfold momS momP; rw [hp]; (try simp only [htk2, hmin] at *); simp_all; done)
     | (rw [hm]; unfold momS momP; rw [hp]; (try simp only [htk2, hmin] at *); simp_all; omega)
     | (rw [hm]; unfold momS momP; rw [hp]; (try simp only [htk2, hmin] at *); simp_all; fail)
  ·intro h; try exact na h
   all_goals
    have hm := mom_yes1 (b := b) (by rw [hs]; simp_all)
    rw [hs] at hm
    have hl14 : 14 ≤ s.length := by (try simp only [Bool.not_eq_eq_eq_not, Bool.not_true, Bool.not_false, decide_eq_false_iff_not, decide_eq_true_eq] at *); omega
    obtain ⟨p, hp⟩ : ∃ p, s.drop 14 = p := ⟨_, rfl⟩
    have hpl : p.length = s.length - 14 := by rw [← hp, List.length_drop]
    have htk : List.take ((s.length : Int) - 14).toNat (List.drop (Int.toNat 14) s) = p := by rw [show Int.toNat 14 = 14 from rfl, hp]; exact List.take_of_length_le (by omega)
    have htk1 : List.take ((p.length : Int) - 1).toNat (List.drop (Int.toNat 1) p) = p.drop 1 := List.take_of_length_le (by rw [show Int.toNat 1 = 1 from rfl, List.length_drop]; omega)
    have htk2 : List.take ((p.length : Int) - 1).toNat (List.drop 1 p) = p.drop 1 := htk1
    have hmin : (0 ≤ if numT (List.take 2 (List.drop 2 s)) < numT (List.take 2 s) then numT (List.take 2 (List.drop 2 s)) else numT (List.take 2 s)) ↔ (0 ≤ numT (s.take 2) ∧ 0 ≤ numT ((s.drop 2).take 2)) := by split <;> omega
    refine rg ΦUT_ok [3, 5] htk ?_
    by_cases h0 : p = [] <;> by_cases h2 : (p.length : Int) < 2 <;> by_cases h46 : ((p.getD 0 0).toNat : Int) = 46
    all_goals
     refine rB ΦUT_ok [3, 44] (And.intro h0 (And.intro h2 (And.intro h46 (And.intro dig_ok htk1)))) fun K' hK => ?_
     repeat' first | (refine lf hK (And.intro h0 (And.intro h2 (And.intro h46 (And.intro dig_ok htk1)))) ?_; clear hK K') | with_reducible apply And.intro | refine sA (And.intro h0 (And.intro h2 (And.intro h46 (And.intro dig_ok htk1)))) (fun _ => ?_) fun _ => ?_ | refine sAb (And.intro h0 (And.intro h2 (And.intro h46 (And.intro dig_ok htk1)))) (fun _ => ?_) fun _ => ?_ | refine sAl (And.intro h0 (And.intro h2 (And.intro h46 (And.intro dig_ok htk1)))) (fun g => ?_) fun g => ?_ | exact sd | exact sde (And.intro h0 (And.intro h2 (And.intro h46 (And.intro dig_ok htk1)))) | exact sdp (And.intro h0 (And.intro h2 (And.intro h46 (And.intro dig_ok htk1)))) | refine stk (And.intro h0 (And.intro h2 (And.intro h46 (And.intro dig_ok htk1)))) ?_ | fail
     all_goals
      refine cn ?_ ?_
      ·intro h; try exact na h
       all_goals
        refine rg ΦUT_ok [2] trivial ?_
        refine fi trivial ?_
        all_goals first
         | (rw [hy]; done)
         | (rw [hm]; unfold momS momP; rw [hp]; (try simp only [htk2, hmin] at *); simp_all; done)
         | (rw [hm]; unfold momS momP; rw [hp]; (try simp only [htk2, hmin] at *); simp_all; omega)
         | (rw [hm]; unfold momS momP; rw [hp]; (try simp only [htk2, hmin] at *); simp_all; fail)
      ·intro h; try exact na h
       all_goals
        have h22 : (s.take 2).length = 2 ∧ ((s.drop 2).take 2).length = 2 ∧ Int.toNat 2 = 2 ∧ (4 - 2 : Int).toNat = 2 := ⟨by rw [List.length_take]; omega, tkl (by omega), rfl, rfl⟩
        refine rd ΦUT_ok 8 [3, 6, 7] h22 ?_
        have h10 : ((s.drop 4).take 10).length = 10 ∧ Int.toNat 4 = 4 ∧ (14 - 4 : Int).toNat = 10 := ⟨tkl (by omega), rfl, rfl⟩
        have hni := numT_in (s.take 2)
        have hnj := numT_in ((s.drop 2).take 2)
        refine rB ΦUT_ok [2] h10 fun K' hK => ?_
        repeat' first | (refine lf hK h10 ?_; clear hK K') | with_reducible apply And.intro | refine sA h10 (fun _ => ?_) fun _ => ?_ | refine sAb h10 (fun _ => ?_) fun _ => ?_ | refine sAl h10 (fun g => ?_) fun g => ?_ | exact sd | exact sde h10 | exact sdp h10 | refine stk h10 ?_ | fail
        all_goals
         refine fi trivial ?_
         all_goals first
          | (rw [hy]; done)
          | (rw [hm]; unfold momS momP; rw [hp]; (try simp only [htk2, hmin] at *); simp_all; done)
          | (rw [hm]; unfold momS momP; rw [hp]; (try simp only [htk2, hmin] at *); simp_all; omega)
          | (rw [hm]; unfold momS momP; rw [hp]; (try simp only [htk2, hmin] at *); simp_all; fail))
end Go.Proofs.YtpajpkbipagjpaaGreatDoor.Oc
namespace Go.Proofs.YtpajpkbipagjpaaGreatDoor.Oc
open Go Go.RowKit Go.Proofs.YtpajpkbipagjpaaGreatDoor.Vm Go.Proofs.YtpajpkbipagjpaaGreatDoor.Tr Go.IntWalk
set_option maxRecDepth 100000
set_option maxHeartbeats 4000000
def shortB (b : List UInt8) : Bool := if b.length < 2 then decide (b.length = 1) else (decide (¬ (b.getD 0 0).toNat = 0) && decide (¬ (b.getD 0 0).toNat = 255)) || decide (¬ (b.getD 0 0).toNat / 128 = (b.getD 1 0).toNat / 128)
def bitsB (b : List UInt8) : Bool := if b.length < 2 then decide (b.length = 1 ∧ (b.getD 0 0).toNat = 0) else decide ((b.getD 0 0).toNat < 8 ∧ (b.getD (b.length - 1) 0).toNat % 2 ^ (b.getD 0 0).toNat = 0)
def boolB (b : List UInt8) : Bool := decide (b.length = 1 ∧ ((b.getD 0 0).toNat = 0 ∨ (b.getD 0 0).toNat = 255))
theorem shr7 (x : UInt8) : (x.toNat : Int).fdiv (2 ^ min (Int.toNat 7) 8) = ((x.toNat / 128 : Nat) : Int) := by
 rw [show (2 ^ min (Int.toNat 7) 8 : Int) = 128 by decide, Int.fdiv_eq_ediv_of_nonneg _ (by decide)]; omega
theorem mskA : ∀ (x : Fin 256) (k : Fin 9), bits .and .u8 (x.val : Int) (IntKind.u8.wrap (IntKind.u8.wrap (1 * 2 ^ k.val) - 1)) = ((x.val % 2 ^ k.val : Nat) : Int) := by decide +kernel
theorem msk (x : UInt8) (k : Nat) : bits .and .u8 (x.toNat : Int) (IntKind.u8.wrap (IntKind.u8.wrap (1 * 2 ^ min k 8) - 1)) = ((x.toNat % 2 ^ min k 8 : Nat) : Int) := by
 exact mskA ⟨x.toNat, x.toNat_lt⟩ ⟨min k 8, by omega⟩
theorem short1 {b : List UInt8} (h : (b.length : Int) < 2) : shortB b = decide ((b.length : Int) = 1) := by
 unfold shortB; rw [if_pos (by omega)]; exact decide_eq_decide.2 (by omega)
theorem short2 {b : List UInt8} (h : ¬ (b.length : Int) < 2) : shortB b = ((decide (¬ ((b.getD 0 0).toNat : Int) = 0) && decide (¬ ((b.getD 0 0).toNat : Int) = 255)) || decide (¬ (((b.getD 0 0).toNat / 128 : Nat) : Int) = (((b.getD 1 0).toNat / 128 : Nat) : Int))) := by
 unfold shortB; rw [if_neg (by omega)]
 congr 1
 ·congr 1 <;> exact decide_eq_decide.2 (by omega)
 ·exact decide_eq_decide.2 (by omega)
theorem bits1 {b : List UInt8} (h : (b.length : Int) < 2) : bitsB b = (decide ((b.length : Int) = 1) && decide (((b.getD 0 0).toNat : Int) = 0)) := by
 unfold bitsB; rw [if_pos (by omega), ← Bool.decide_and]; exact decide_eq_decide.2 (by omega)
theorem bits2 {b : List UInt8} (h : ¬ (b.length : Int) < 2) : bitsB b = (decide (((b.getD 0 0).toNat : Int) < 8) && decide ((((b.getD (b.length - 1) 0).toNat % 2 ^ min (b.getD 0 0).toNat 8 : Nat) : Int) = 0)) := by
 unfold bitsB; rw [if_neg (by omega), ← Bool.decide_and]
 refine decide_eq_decide.2 ⟨fun ⟨h1, h2⟩ => ⟨by omega, ?_⟩, fun ⟨h1, h2⟩ => ⟨by omega, ?_⟩⟩
 ·rw [Nat.min_eq_left (by omega), h2]; rfl
 ·rw [Nat.min_eq_left (by omega)] at h2; omega
theorem bool1 (b : List UInt8) : boolB b = (decide ((b.length : Int) = 1) && (decide (((b.getD 0 0).toNat : Int) = 0) || decide (((b.getD 0 0).toNat : Int) = 255))) := by
 unfold boolB; rw [← Bool.decide_or, ← Bool.decide_and]; exact decide_eq_decide.2 (by omega)
@[go_sem] noncomputable def shortcF : PFn := PF [SY] (fun (b : List UInt8) => b.length ≤ 4611686018427387904) (fun (b : List UInt8) => [.bool (shortB b)])
theorem shortc_ok : Pure E 296 shortcF := Pure.of_sig (rs := [.tmp 2]) (n := 30) Tryz.func296 rfl rfl rfl (Nat.le_of_ble_eq_true rfl) (by
 intro (b : List UInt8) hds
 refine st0 ?_
 refine rg sound_nil [0] shr7 ?_
 refine rg sound_nil [0, 5] shr7 ?_
 refine cn ?_ ?_
 ·intro h; try exact na h
  all_goals
   have hy := short1 (b := b) (by omega)
   refine rg sound_nil [2] shr7 ?_
   refine fi trivial ?_
   rw [hy]
   all_goals first | rfl | (simp_all; done) | (rw [msk]; simp_all; done) | (rw [decide_eq_false (by assumption)]; rfl)
 ·intro h; try exact na h
  all_goals
   have hy := short2 (b := b) (by omega)
   refine rdB (n := 22) sound_nil [2] shr7 fun L hL => ?_
   repeat' first | (refine lfd hL shr7 ?_; clear hL L) | with_reducible apply And.intro | refine sA shr7 (fun _ => ?_) fun _ => ?_ | refine sAb shr7 (fun _ => ?_) fun _ => ?_ | refine sAl shr7 (fun g => ?_) fun g => ?_ | exact sd | exact sde shr7 | exact sdp shr7 | refine stk shr7 ?_ | fail
   all_goals
    refine fi trivial ?_
    rw [hy]
    all_goals first | rfl | (simp_all; done) | (rw [msk]; simp_all; done) | (rw [decide_eq_false (by assumption)]; rfl))
@[go_sem] noncomputable def bitscF : PFn := PF [SY] (fun (b : List UInt8) => b.length ≤ 4611686018427387904) (fun (b : List UInt8) => [.bool (bitsB b)])
theorem bitsc_ok : Pure E 297 bitscF := Pure.of_sig (rs := [.tmp 2]) (n := 34) Tryz.func297 rfl rfl rfl (Nat.le_of_ble_eq_true rfl) (by
 intro (b : List UInt8) hds
 have hl1 : ∀ h : 2 ≤ b.length, ((b.length : Int) - 1).toNat = b.length - 1 := fun h => by omega
 refine st0 ?_
 refine rg sound_nil [0] (And.intro msk hl1) ?_
 refine rg sound_nil [0, 5] (And.intro msk hl1) ?_
 refine cn ?_ ?_
 ·intro h; try exact na h
  all_goals
   have hy := bits1 (b := b) (by omega)
   refine rB sound_nil [2] (And.intro msk hl1) fun K' hK => ?_
   repeat' first | (refine lf hK (And.intro msk hl1) ?_; clear hK K') | with_reducible apply And.intro | refine sA (And.intro msk hl1) (fun _ => ?_) fun _ => ?_ | refine sAb (And.intro msk hl1) (fun _ => ?_) fun _ => ?_ | refine sAl (And.intro msk hl1) (fun g => ?_) fun g => ?_ | exact sd | exact sde (And.intro msk hl1) | exact sdp (And.intro msk hl1) | refine stk (And.intro msk hl1) ?_ | fail
   all_goals
    refine fi trivial ?_
    rw [hy]
    all_goals first | rfl | (simp_all; done) | (rw [msk]; simp_all; done) | (rw [decide_eq_false (by assumption)]; rfl)
 ·intro h; try exact na h
  all_goals
   have hy := bits2 (b := b) (by omega)
   refine rdB (n := 20) sound_nil [2] (And.intro msk hl1) fun L hL => ?_
   repeat' first | (refine lfd hL (And.intro msk hl1) ?_; clear hL L) | with_reducible apply And.intro | refine sA (And.intro msk hl1) (fun _ => ?_) fun _ => ?_ | refine sAb (And.intro msk hl1) (fun _ => ?_) fun _ => ?_ | refine sAl (And.intro msk hl1) (fun g => ?_) fun g => ?_ | exact sd | exact sde (And.intro msk hl1) | exact sdp (And.intro msk hl1) | refine stk (And.intro msk hl1) ?_ | fail
   all_goals
    refine fi trivial ?_
    rw [hy]
    all_goals first | rfl | (simp_all; done) | (rw [msk]; simp_all; done) | (rw [decide_eq_false (by assumption)]; rfl))
@[go_sem] noncomputable def boolcF : PFn := PF [SY] (fun (b : List UInt8) => b.length ≤ 4611686018427387904) (fun (b : List UInt8) => [.bool (boolB b)])
theorem boolc_ok : Pure E 295 boolcF := Pure.of_sig (rs := [.tmp 2]) (n := 18) Tryz.func295 rfl rfl rfl (Nat.le_of_ble_eq_true rfl) (by
 intro (b : List UInt8) hds
 have hy := bool1 b
 refine st0 ?_
 refine rg sound_nil [0] trivial ?_
 refine rB sound_nil [2] trivial fun K' hK => ?_
 repeat' first | (refine lf hK trivial ?_; clear hK K') | with_reducible apply And.intro | refine sA trivial (fun _ => ?_) fun _ => ?_ | refine sAb trivial (fun _ => ?_) fun _ => ?_ | refine sAl trivial (fun g => ?_) fun g => ?_ | exact sd | exact sde trivial | exact sdp trivial | refine stk trivial ?_ | fail
 all_goals
  refine fi trivial ?_
  rw [hy]
  all_goals first | rfl | (simp_all; done) | (rw [msk]; simp_all; done) | (rw [decide_eq_false (by assumption)]; rfl))
end Go.Proofs.YtpajpkbipagjpaaGreatDoor.Oc
namespace Go.Proofs.YtpajpkbipagjpaaGreatDoor.Oc
open Go Go.RowKit Go.Proofs.YtpajpkbipagjpaaGreatDoor.Vm Go.Proofs.YtpajpkbipagjpaaGreatDoor.Tr Go.IntWalk
set_option maxRecDepth 100000
set_option maxHeartbeats 4000000
theorem allI_of {p : Int → Bool} {b : List UInt8} {i : Nat} (h : ∀ j, j < i → p ((b.getD j 0).toNat : Int) = true) (hi : b.length ≤ i) : (b.all fun x => p (x.toNat : Int)) = true := by
 rw [List.all_eq_true]
 intro x hx
 obtain ⟨j, hj, rfl⟩ := List.mem_iff_getElem.1 hx
 have := h j (by omega)
 rwa [List.getD_eq_getElem?_getD, List.getElem?_eq_getElem hj] at this
theorem allI_not {p : Int → Bool} {b : List UInt8} {i : Nat} (hi : i < b.length) (h : p ((b.getD i 0).toNat : Int) = false) : (b.all fun x => p (x.toNat : Int)) = false := by
 cases ha : b.all fun x => p (x.toNat : Int) with
 | false => rfl
 | true =>
   rw [List.all_eq_true] at ha
   have := ha (b.getD i 0) (by rw [List.getD_eq_getElem?_getD, List.getElem?_eq_getElem hi]; exact List.getElem_mem hi)
   rw [h] at this; cases this
@[go_sem] noncomputable def onP (p : Int → Bool) : PFn := PF [SI .u8] (fun (c : Int) => True) (fun (c : Int) => [.bool (p c)])
theorem only_ok {Φ : Fns} {f : Nat} {p : Int → Bool} {c : Fr} {stk : List Fr} {h : List (Nat × Blk)} {K : D → St → Prop} {b : List UInt8} (hΦ : Sound E Φ) (hrow : Φ f = some (onP p) ∧ Φ 293 = none ∧ Φ 294 = none ∧ Φ 331 = none) (hb : b.length ≤ 4611686018427387904)
 (hK0 : K (.dat (.bool (b.all fun x => p (x.toNat : Int)))) ⟨c, stk, (1, .cells [.dat (.fn (.func f))] false) :: h⟩) : VCcall E 292 [.dat (.lst (bytesD b)), .ref 1 0] ⟨c, stk, (1, .cells [.dat (.fn (.func f))] false) :: h⟩ K := by
 refine ec (rs := [.tmp 3]) (n := 8) Tryz.func292 rfl rfl rfl ?_
 refine rg hΦ [0, 1] hrow ?_
 refine rB hΦ [3] hrow fun K' hK => ?_
 repeat' first | with_reducible apply And.intro | exact sd | exact sde hrow | exact sdp hrow | refine stk hrow ?_ | fail
 refine ec (rs := [.tmp 4]) (n := 9) Tryz.func293 rfl rfl rfl ?_
 refine rg hΦ [0, 1] hrow ?_
 refine rB hΦ [4] hrow fun K' hK => ?_
 repeat' first | with_reducible apply And.intro | exact sd | exact sde hrow | exact sdp hrow | refine stk hrow ?_ | fail
 refine ec (rs := [.tmp 4]) (n := 19) Tryz.func331 rfl rfl rfl ?_
 refine rg hΦ [0, 1] hrow ?_
 refine rg hΦ [0, 1, 7, 8] hrow ?_
 refine nx ?_
 refine VC.loopS (ι := Nat) [0, 1, 7] (fun i => [(8, .dat (.int .i64 (i : Int)))]) (fun i => []) (fun i => i ≤ b.length ∧ ∀ j, j < i → p ((b.getD j 0).toNat : Int) = true) (fun i => b.length - i) 0 ⟨Nat.zero_le _, fun j hj => by omega⟩ ?_ ?_
 ·refine Ent.into ?_ rfl rfl rfl rfl
  simp -implicitDefEqProofs only [go_sem]; (try simp only [D.dat.injEq, Vm.Data.int.injEq, true_and, and_true, and_self, eq_self]); (try omega); (try ((repeat' apply And.intro) <;> first | omega | rfl))
 intro i hp; (try dsimp only at hp)
 refine st0 ?_
 refine rg hΦ [0, 1, 7, 8, 9] hrow ?_
 refine cn ?_ ?_
 ·intro h; try exact nd h
  all_goals
   refine rg hΦ [0, 1, 5, 7, 8] hrow ?_
   have hi : i < b.length := by omega
   refine rB hΦ [0, 1, 5, 7, 8, 16] (And.intro hrow (bytesD_at hi)) fun K' hK => ?_
   repeat' first | with_reducible apply And.intro | exact sd | exact sde (And.intro hrow (bytesD_at hi)) | exact sdp (And.intro hrow (bytesD_at hi)) | refine stk (And.intro hrow (bytesD_at hi)) ?_ | fail
   refine ec (rs := [.tmp 3]) (n := 8) Tryz.func294 rfl rfl rfl ?_
   refine rg hΦ [0, 1] hrow ?_
   refine rg hΦ [3] hrow ?_
   refine nx ?_
   refine rt hrow ?_
   repeat' first | (refine lf hK (And.intro hrow (bytesD_at hi)) ?_; clear hK K') | with_reducible apply And.intro | exact sd | exact sde (And.intro hrow (bytesD_at hi)) | exact sdp (And.intro hrow (bytesD_at hi)) | refine stk (And.intro hrow (bytesD_at hi)) ?_ | fail
   all_goals
    refine cn ?_ ?_
    ·intro h; try exact nd h
     all_goals
      have hR := allI_not (p := p) (b := b) (i := i) (by omega) (by simp_all)
      refine rg hΦ [4] hrow ?_
      refine nx ?_
      refine rt hrow ?_
      repeat' first | (refine lf hK hrow ?_; clear hK K') | with_reducible apply And.intro | exact sd | exact sde hrow | exact sdp hrow | refine stk hrow ?_ | fail
      all_goals
       refine nx ?_
       refine rt hrow ?_
       repeat' first | (refine lf hK hrow ?_; clear hK K') | with_reducible apply And.intro | exact sd | exact sde hrow | exact sdp hrow | refine stk hrow ?_ | fail
       all_goals
        refine nx ?_
        refine rt trivial ?_
        rw [hR] at hK0
        exact hK0
    ·intro h; try exact nd h
     all_goals
      refine rgL hΦ hrow ?_
      refine nx ?_
      refine ⟨i + 1, ⟨by omega, fun j hj => by
       rcases Nat.lt_succ_iff_lt_or_eq.1 hj with hj | rfl
       ·exact hp.2 j hj
       ·simp_all⟩, Ent.into ?_ rfl rfl rfl rfl, by omega⟩
      simp -implicitDefEqProofs only [go_sem]; (try simp (disch := omega) only [i64_in, tmodn, tdivn]); (try simp only [D.dat.injEq, Vm.Data.int.injEq, true_and, and_true, and_self, eq_self]); (try omega); (try ((repeat' apply And.intro) <;> first | omega | rfl))
 ·intro h; try exact nd h
  all_goals
   have hR := allI_of (p := p) hp.2 (by omega)
   refine rg hΦ [4] hrow ?_
   refine nx ?_
   refine rt hrow ?_
   repeat' first | (refine lf hK hrow ?_; clear hK K') | with_reducible apply And.intro | exact sd | exact sde hrow | exact sdp hrow | refine stk hrow ?_ | fail
   all_goals
    refine nx ?_
    refine rt hrow ?_
    repeat' first | (refine lf hK hrow ?_; clear hK K') | with_reducible apply And.intro | exact sd | exact sde hrow | exact sdp hrow | refine stk hrow ?_ | fail
    all_goals
     refine nx ?_
     refine rt trivial ?_
     rw [hR] at hK0
     exact hK0
end Go.Proofs.YtpajpkbipagjpaaGreatDoor.Oc
namespace Go.Proofs.YtpajpkbipagjpaaGreatDoor.Oc
open Go Go.RowKit Go.Proofs.YtpajpkbipagjpaaGreatDoor.Vm Go.Proofs.YtpajpkbipagjpaaGreatDoor.Tr Go.IntWalk
set_option maxRecDepth 100000
set_option maxHeartbeats 4000000
def contOk (g : Int) (b : List UInt8) : Bool := if g = 1 then boolB b else if g = 2 then shortB b else if g = 10 then shortB b else if g = 3 then bitsB b else if g = 4 then true else if g = 5 then decide ((b.length : Int) = 0) else if g = 6 then oidB b else if g = 12 then validB b else if g = 19 then b.all (fun x => prtI (x.toNat : Int)) else if g = 22 then b.all (fun x => decide ((x.toNat : Int) < 128)) else if g = 23 then utcB b else if g = 24 then momB b else false
def hasFit (g : Int) : Bool := decide (g = 1 ∨ g = 2 ∨ g = 3 ∨ g = 4 ∨ g = 5 ∨ g = 6 ∨ g = 10 ∨ g = 12 ∨ g = 19 ∨ g = 22 ∨ g = 23 ∨ g = 24)
def brkN (t : T) : Int := if t.cls < 0 ∨ 3 < t.cls ∨ t.tag < 0 ∨ 30 < t.tag then 1 else if (t.cons = true ∧ 0 < (t.bytes.length : Int)) ∨ (t.cons = false ∧ 0 < (t.kids.length : Int)) then 2 else if ¬ t.cls = 0 then 0 else if t.tag = 16 ∨ t.tag = 17 then (if t.cons = true then 0 else 3) else if t.cons = true ∨ hasFit t.tag = false then 3 else if contOk t.tag t.bytes = true then 0 else 4
theorem brk_1 {t : T} (h : t.cls < 0 ∨ 3 < t.cls ∨ t.tag < 0 ∨ 30 < t.tag) : brkN t = 1 := if_pos h
theorem brk_2 {t : T} (h : ¬ (t.cls < 0 ∨ 3 < t.cls ∨ t.tag < 0 ∨ 30 < t.tag)) (h2 : (t.cons = true ∧ 0 < (t.bytes.length : Int)) ∨ (t.cons = false ∧ 0 < (t.kids.length : Int))) : brkN t = 2 := by unfold brkN; rw [if_neg h, if_pos h2]
theorem brk_c {t : T} (h : ¬ (t.cls < 0 ∨ 3 < t.cls ∨ t.tag < 0 ∨ 30 < t.tag)) (h2 : ¬ ((t.cons = true ∧ 0 < (t.bytes.length : Int)) ∨ (t.cons = false ∧ 0 < (t.kids.length : Int)))) (h3 : ¬ t.cls = 0) : brkN t = 0 := by unfold brkN; rw [if_neg h, if_neg h2, if_pos h3]
theorem brk_l {t : T} (h : ¬ (t.cls < 0 ∨ 3 < t.cls ∨ t.tag < 0 ∨ 30 < t.tag)) (h2 : ¬ ((t.cons = true ∧ 0 < (t.bytes.length : Int)) ∨ (t.cons = false ∧ 0 < (t.kids.length : Int)))) (h3 : t.cls = 0) (hl : t.tag = 16 ∨ t.tag = 17) : brkN t = if t.cons = true then 0 else 3 := by unfold brkN; rw [if_neg h, if_neg h2, if_neg (by omega), if_pos hl]
theorem brk_p {t : T} (h : ¬ (t.cls < 0 ∨ 3 < t.cls ∨ t.tag < 0 ∨ 30 < t.tag)) (h2 : ¬ ((t.cons = true ∧ 0 < (t.bytes.length : Int)) ∨ (t.cons = false ∧ 0 < (t.kids.length : Int)))) (h3 : t.cls = 0) (hl : ¬ (t.tag = 16 ∨ t.tag = 17)) : brkN t = if t.cons = true ∨ hasFit t.tag = false then 3 else if contOk t.tag t.bytes = true then 0 else 4 := by unfold brkN; rw [if_neg h, if_neg h2, if_neg (by omega), if_neg hl]
@[go_sem] noncomputable def on3F : PFn := onP (fun _ => true)
@[go_sem] noncomputable def on5F : PFn := onP prtI
@[go_sem] noncomputable def on6F : PFn := onP (fun c => decide (c < 128))
theorem on5_ok : Pure E 302 on5F := prt_ok
theorem on3_ok : Pure E 298 on3F := Pure.of_sig (rs := [.tmp 2]) (n := 3) Tryz.func298 rfl rfl rfl (Nat.le_of_ble_eq_true rfl) (by
 intro (c : Int) hds
 refine st0 ?_
 refine rg sound_nil [] trivial ?_
 refine rg sound_nil [2] trivial ?_
 exact fz trivial)
theorem on6_ok : Pure E 304 on6F := Pure.of_sig (rs := [.tmp 2]) (n := 5) Tryz.func304 rfl rfl rfl (Nat.le_of_ble_eq_true rfl) (by
 intro (c : Int) hds
 refine st0 ?_
 refine rg sound_nil [0] trivial ?_
 refine rg sound_nil [2] trivial ?_
 exact fz trivial)
noncomputable def ΦBR : Fns := tab [(296, shortcF), (297, bitscF), (295, boolcF), (300, oidcF), (299, nulcF), (301, uvalidF), (305, utccF), (306, momcF), (298, on3F), (302, on5F), (304, on6F)]
theorem ΦBR_ok : Sound E ΦBR := sound_cons (by kernel_rfl) shortc_ok (sound_cons (by kernel_rfl) bitsc_ok (sound_cons (by kernel_rfl) boolc_ok (sound_cons (by kernel_rfl) oidc_ok (sound_cons (by kernel_rfl) nulc_ok (sound_cons (by kernel_rfl) uvalid_ok (sound_cons (by kernel_rfl) utcc_ok (sound_cons (by kernel_rfl) momc_ok (sound_cons (by kernel_rfl) on3_ok (sound_cons (by kernel_rfl) on5_ok (sound_cons (by kernel_rfl) on6_ok (sound_nil)))))))))))
@[go_sem] theorem ΦBR_r : ΦBR 296 = some shortcF ∧ ΦBR 297 = some bitscF ∧ ΦBR 295 = some boolcF ∧ ΦBR 300 = some oidcF ∧ ΦBR 299 = some nulcF ∧ ΦBR 301 = some uvalidF ∧ ΦBR 305 = some utccF ∧ ΦBR 306 = some momcF ∧ ΦBR 298 = some on3F ∧ ΦBR 302 = some on5F ∧ ΦBR 304 = some on6F ∧ ΦBR 252 = none ∧ ΦBR 291 = none ∧ ΦBR 292 = none ∧ ΦBR 293 = none ∧ ΦBR 294 = none ∧ ΦBR 331 = none := ⟨rfl, rfl, rfl, rfl, rfl, rfl, rfl, rfl, rfl, rfl, rfl, rfl, rfl, rfl, rfl, rfl, rfl⟩
theorem fit_no {g : Int} (h : hasFit g = true) : ¬ (g = 16 ∨ g = 17) := by
 have h : g = 1 ∨ g = 2 ∨ g = 3 ∨ g = 4 ∨ g = 5 ∨ g = 6 ∨ g = 10 ∨ g = 12 ∨ g = 19 ∨ g = 22 ∨ g = 23 ∨ g = 24 := of_decide_eq_true h
 omega
def leafS (t : T) : List (D × List (Nat × Blk) × Bool × Bool) := [(.dat (.fn (.func 295)), [], true, boolB t.bytes), (.dat (.fn (.func 296)), [], true, shortB t.bytes), (.dat (.fn (.func 297)), [], true, bitsB t.bytes), (.dat (.fn (.func 299)), [], true, decide ((t.bytes.length : Int) = 0)), (.dat (.fn (.func 300)), [], true, oidB t.bytes), (.dat (.fn (.func 301)), [], true, validB t.bytes), (.dat (.fn (.func 305)), [], true, utcB t.bytes), (.dat (.fn (.func 306)), [], true, momB t.bytes), (.dat .nilf, [], false, false)]
def leafT (t : T) (i : D × List (Nat × Blk) × Bool × Bool) : Prop := i ∈ leafS t ∨ i = (.fn (.func 292) [] [.ref 1 0], [(1, .cells [.dat (.fn (.func 298))] false)], true, true) ∨ i = (.fn (.func 292) [] [.ref 1 0], [(1, .cells [.dat (.fn (.func 302))] false)], true, t.bytes.all (fun x => prtI (x.toNat : Int))) ∨ i = (.fn (.func 292) [] [.ref 1 0], [(1, .cells [.dat (.fn (.func 304))] false)], true, t.bytes.all (fun x => decide ((x.toNat : Int) < 128)))
def lstB (t : T) : Bool := decide (t.tag = 16 ∨ t.tag = 17)
@[go_sem] noncomputable def brknF : PFn := PF [SPt] (fun (t : T) => t.sz ≤ 100000000) (fun (t : T) => [.int .i64 (brkN t)])
theorem brkn_ok : Pure E 211 brknF := Pure.of_sig (rs := [.tmp 2]) (n := 110) Tryz.func211 rfl rfl rfl (Nat.le_of_ble_eq_true rfl) (by
 intro (t : T) hds
 have hkl := kids_len t
 have hsz := T.sz_eq t
 refine st0 ?_
 refine rg ΦBR_ok [0] trivial ?_
 refine VC.cutP (ι := Unit) [0] (fun _ => []) (fun _ => []) (fun _ => (¬ (t.cls < 0 ∨ 3 < t.cls ∨ t.tag < 0 ∨ 30 < t.tag)) ∧ (¬ ((t.cons = true ∧ 0 < (t.bytes.length : Int)) ∨ (t.cons = false ∧ 0 < (t.kids.length : Int)))) ∧ t.cls = 0) ?_ ?_
 ·skip
  refine rB ΦBR_ok [0, 5] trivial fun K' hK => ?_
  repeat' first | (refine lf hK trivial ?_; clear hK K') | with_reducible apply And.intro | refine sA trivial (fun _ => ?_) fun _ => ?_ | refine sAb trivial (fun _ => ?_) fun _ => ?_ | refine sAl trivial (fun g => ?_) fun g => ?_ | exact sd | exact sde trivial | exact sdp trivial | refine stk trivial ?_ | fail
  all_goals
   refine cn ?_ ?_
   ·intro h; try exact na h
    all_goals
     have hy := brk_1 (t := t) (by (try simp only [Bool.not_eq_eq_eq_not, Bool.not_true, Bool.not_false, decide_eq_false_iff_not, decide_eq_true_eq] at *); omega)
     refine rg ΦBR_ok [2] trivial ?_
     refine fi trivial ?_
     all_goals first
      | (rw [hy]; done)
      | (rw [brk_l h1 h2 h3 hl]; simp_all; done)
      | (rw [brk_p h1 h2 h3 hl]; simp_all; done)
   ·intro h; try exact na h
    all_goals
     have h1 : ¬ (t.cls < 0 ∨ 3 < t.cls ∨ t.tag < 0 ∨ 30 < t.tag) := by (try simp only [Bool.not_eq_eq_eq_not, Bool.not_true, Bool.not_false, decide_eq_false_iff_not, decide_eq_true_eq] at *); omega
     refine rB ΦBR_ok [0, 32] trivial fun K' hK => ?_
     repeat' first | (refine lf hK trivial ?_; clear hK K') | with_reducible apply And.intro | refine sA trivial (fun _ => ?_) fun _ => ?_ | refine sAb trivial (fun _ => ?_) fun _ => ?_ | refine sAl trivial (fun g => ?_) fun g => ?_ | exact sd | exact sde trivial | exact sdp trivial | refine stk trivial ?_ | fail
     all_goals
      refine cn ?_ ?_
      ·intro h; try exact na h
       all_goals
        have hy := brk_2 (t := t) h1 (by (try simp only [Bool.not_eq_eq_eq_not, Bool.not_true, Bool.not_false, decide_eq_false_iff_not, decide_eq_true_eq] at *); first | (left; exact ⟨by assumption, by omega⟩) | (right; exact ⟨by assumption, by omega⟩) | (simp_all; done))
        refine rg ΦBR_ok [2] trivial ?_
        refine fi trivial ?_
        all_goals first
         | (rw [hy]; done)
         | (rw [brk_l h1 h2 h3 hl]; simp_all; done)
         | (rw [brk_p h1 h2 h3 hl]; simp_all; done)
      ·intro h; try exact na h
       all_goals
        have h2 : ¬ ((t.cons = true ∧ 0 < (t.bytes.length : Int)) ∨ (t.cons = false ∧ 0 < (t.kids.length : Int))) := by (try simp only [Bool.not_eq_eq_eq_not, Bool.not_true, Bool.not_false, decide_eq_false_iff_not, decide_eq_true_eq] at *); cases hc : t.cons <;> simp_all <;> omega
        refine rg ΦBR_ok [0, 60] trivial ?_
        refine cn ?_ ?_
        ·intro h; try exact na h
         all_goals
          have hy := brk_c (t := t) h1 h2 (by (try simp only [Bool.not_eq_eq_eq_not, Bool.not_true, Bool.not_false, decide_eq_false_iff_not, decide_eq_true_eq] at *); omega)
          refine rg ΦBR_ok [2] trivial ?_
          refine fi trivial ?_
          all_goals first
           | (rw [hy]; done)
           | (rw [brk_l h1 h2 h3 hl]; simp_all; done)
           | (rw [brk_p h1 h2 h3 hl]; simp_all; done)
        ·intro h; try exact na h
         all_goals
          have h3 : t.cls = 0 := by (try simp only [Bool.not_eq_eq_eq_not, Bool.not_true, Bool.not_false, decide_eq_false_iff_not, decide_eq_true_eq] at *); omega
          refine nx ?_
          exact ⟨(), ⟨h1, h2, h3⟩, et⟩
 rintro _ ⟨h1, h2, h3⟩
 refine st0 ?_
 refine VC.cutP (ι := Unit) [0] (fun _ => [(3, .dat (.bool (lstB t)))]) (fun _ => []) (fun _ => True) ?_ ?_
 ·have hlb : (t.tag = 16 → lstB t = true) ∧ (t.tag = 17 → lstB t = true) ∧ (¬ t.tag = 16 → lstB t = decide (t.tag = 17)) := ⟨fun h => decide_eq_true (.inl h), fun h => decide_eq_true (.inr h), fun h => decide_eq_decide.2 ⟨fun h2 => h2.elim (fun h3 => absurd h3 h) id, .inr⟩⟩
  refine rBL ΦBR_ok trivial fun K' hK => ?_
  repeat' first | (refine lfL hK trivial ?_; clear hK K') | with_reducible apply And.intro | refine sA trivial (fun _ => ?_) fun _ => ?_ | refine sAb trivial (fun _ => ?_) fun _ => ?_ | refine sAl trivial (fun g => ?_) fun g => ?_ | exact sd | exact sde trivial | exact sdp trivial | refine stk trivial ?_ | fail
  all_goals
   refine nx ?_
   exact ⟨(), trivial, by first | exact ete (hlb.1 (by assumption)) | exact ete (hlb.2.2 (by assumption))⟩
 intro _ _
 refine st0 ?_
 refine VC.cutP (ι := D × List (Nat × Blk) × Bool × Bool) [0, 3] (fun i => [(4, i.1)]) (fun i => i.2.1) (fun i => leafT t i ∧ hasFit t.tag = i.2.2.1 ∧ (i.2.2.1 = true → contOk t.tag t.bytes = i.2.2.2)) ?_ ?_
 ·skip
  refine rBL ΦBR_ok  trivial fun K' hK => ?_
  repeat' first | with_reducible apply And.intro | exact sd | exact sde trivial | exact sdp trivial | refine stk trivial ?_ | fail
  refine ec (rs := [.tmp 2]) (n := 34) Tryz.func252 rfl rfl rfl ?_
  refine rg ΦBR_ok [0] trivial ?_
  refine rg ΦBR_ok [0, 3] trivial ?_
  refine rg ΦBR_ok [3, 4] trivial ?_
  refine rg ΦBR_ok [3, 4, 5] trivial ?_
  refine cn ?_ ?_
  ·intro h; try exact na h
   all_goals
    have hf : hasFit t.tag = true := decide_eq_true (by omega)
    have hcn : contOk t.tag t.bytes = boolB t.bytes := by rw [(by assumption : t.tag = 1)]; rfl
    refine rg ΦBR_ok [2] trivial ?_
    refine nx ?_
    refine rt trivial ?_
    repeat' first | (refine lfL hK trivial ?_; clear hK K') | with_reducible apply And.intro | exact sd | exact sde trivial | exact sdp trivial | refine stk trivial ?_ | fail
    all_goals
     refine nx ?_
     exact ⟨(.dat (.fn (.func 295)), [], true, boolB t.bytes), ⟨.inl (by simp [leafS]), hf, fun h' => by first | exact hcn | cases h'⟩, et⟩
  ·intro h; try exact na h
   all_goals
    refine rg ΦBR_ok [3, 4, 7] trivial ?_
    refine cn ?_ ?_
    ·intro h; try exact na h
     all_goals
      refine cn ?_ ?_
      ·intro h; try exact na h
       all_goals
        have hf : hasFit t.tag = true := decide_eq_true (by omega)
        have hcn : contOk t.tag t.bytes = shortB t.bytes := by first | (rw [(by assumption : t.tag = 2)]; rfl) | (rw [(by assumption : t.tag = 10)]; rfl)
        refine rg ΦBR_ok [2] trivial ?_
        refine nx ?_
        refine rt trivial ?_
        repeat' first | (refine lfL hK trivial ?_; clear hK K') | with_reducible apply And.intro | exact sd | exact sde trivial | exact sdp trivial | refine stk trivial ?_ | fail
        all_goals
         refine nx ?_
         exact ⟨(.dat (.fn (.func 296)), [], true, shortB t.bytes), ⟨.inl (by simp [leafS]), hf, fun h' => by first | exact hcn | cases h'⟩, et⟩
      ·exact fun h => na h
    ·intro h; try exact na h
     all_goals
      refine rgL ΦBR_ok trivial ?_
      refine cn ?_ ?_
      ·intro h; try exact na h
       all_goals
        have hf : hasFit t.tag = true := decide_eq_true (by omega)
        have hcn : contOk t.tag t.bytes = shortB t.bytes := by first | (rw [(by assumption : t.tag = 2)]; rfl) | (rw [(by assumption : t.tag = 10)]; rfl)
        refine rg ΦBR_ok [2] trivial ?_
        refine nx ?_
        refine rt trivial ?_
        repeat' first | (refine lfL hK trivial ?_; clear hK K') | with_reducible apply And.intro | exact sd | exact sde trivial | exact sdp trivial | refine stk trivial ?_ | fail
        all_goals
         refine nx ?_
         exact ⟨(.dat (.fn (.func 296)), [], true, shortB t.bytes), ⟨.inl (by simp [leafS]), hf, fun h' => by first | exact hcn | cases h'⟩, et⟩
      ·intro h; try exact na h
       all_goals
        refine rg ΦBR_ok [3, 4, 10] trivial ?_
        refine cn ?_ ?_
        ·intro h; try exact na h
         all_goals
          have hf : hasFit t.tag = true := decide_eq_true (by omega)
          have hcn : contOk t.tag t.bytes = bitsB t.bytes := by rw [(by assumption : t.tag = 3)]; rfl
          refine rg ΦBR_ok [2] trivial ?_
          refine nx ?_
          refine rt trivial ?_
          repeat' first | (refine lfL hK trivial ?_; clear hK K') | with_reducible apply And.intro | exact sd | exact sde trivial | exact sdp trivial | refine stk trivial ?_ | fail
          all_goals
           refine nx ?_
           exact ⟨(.dat (.fn (.func 297)), [], true, bitsB t.bytes), ⟨.inl (by simp [leafS]), hf, fun h' => by first | exact hcn | cases h'⟩, et⟩
        ·intro h; try exact na h
         all_goals
          refine rg ΦBR_ok [3, 4, 12] trivial ?_
          refine cn ?_ ?_
          ·intro h; try exact na h
           all_goals
            have hf : hasFit t.tag = true := decide_eq_true (by omega)
            have hcn : contOk t.tag t.bytes = true := by rw [(by assumption : t.tag = 4)]; rfl
            refine rB ΦBR_ok [2] trivial fun K' hK => ?_
            repeat' first | with_reducible apply And.intro | exact sd | exact sde trivial | exact sdp trivial | refine stk trivial ?_ | fail
            refine ec (rs := [.tmp 2]) (n := 4) Tryz.func291 rfl rfl rfl ?_
            refine rg ΦBR_ok [1] trivial ?_
            refine rg ΦBR_ok [2] trivial ?_
            refine nx ?_
            refine rt trivial ?_
            repeat' first | (refine lf hK trivial ?_; clear hK K') | with_reducible apply And.intro | exact sd | exact sde trivial | exact sdp trivial | refine stk trivial ?_ | fail
            all_goals
             refine nx ?_
             refine rt trivial ?_
             repeat' first | (refine lfL hK trivial ?_; clear hK K') | with_reducible apply And.intro | exact sd | exact sde trivial | exact sdp trivial | refine stk trivial ?_ | fail
             all_goals
              refine nx ?_
              exact ⟨(.fn (.func 292) [] [.ref 1 0], [(1, .cells [.dat (.fn (.func 298))] false)], true, true), ⟨.inr (.inl rfl), hf, fun h' => by first | exact hcn | cases h'⟩, et⟩
          ·intro h; try exact na h
           all_goals
            refine rg ΦBR_ok [3, 4, 16] trivial ?_
            refine cn ?_ ?_
            ·intro h; try exact na h
             all_goals
              have hf : hasFit t.tag = true := decide_eq_true (by omega)
              have hcn : contOk t.tag t.bytes = decide ((t.bytes.length : Int) = 0) := by rw [(by assumption : t.tag = 5)]; rfl
              refine rg ΦBR_ok [2] trivial ?_
              refine nx ?_
              refine rt trivial ?_
              repeat' first | (refine lfL hK trivial ?_; clear hK K') | with_reducible apply And.intro | exact sd | exact sde trivial | exact sdp trivial | refine stk trivial ?_ | fail
              all_goals
               refine nx ?_
               exact ⟨(.dat (.fn (.func 299)), [], true, decide ((t.bytes.length : Int) = 0)), ⟨.inl (by simp [leafS]), hf, fun h' => by first | exact hcn | cases h'⟩, et⟩
            ·intro h; try exact na h
             all_goals
              refine rg ΦBR_ok [3, 4, 18] trivial ?_
              refine cn ?_ ?_
              ·intro h; try exact na h
               all_goals
                have hf : hasFit t.tag = true := decide_eq_true (by omega)
                have hcn : contOk t.tag t.bytes = oidB t.bytes := by rw [(by assumption : t.tag = 6)]; rfl
                refine rg ΦBR_ok [2] trivial ?_
                refine nx ?_
                refine rt trivial ?_
                repeat' first | (refine lfL hK trivial ?_; clear hK K') | with_reducible apply And.intro | exact sd | exact sde trivial | exact sdp trivial | refine stk trivial ?_ | fail
                all_goals
                 refine nx ?_
                 exact ⟨(.dat (.fn (.func 300)), [], true, oidB t.bytes), ⟨.inl (by simp [leafS]), hf, fun h' => by first | exact hcn | cases h'⟩, et⟩
              ·intro h; try exact na h
               all_goals
                refine rg ΦBR_ok [3, 4, 20] trivial ?_
                refine cn ?_ ?_
                ·intro h; try exact na h
                 all_goals
                  have hf : hasFit t.tag = true := decide_eq_true (by omega)
                  have hcn : contOk t.tag t.bytes = validB t.bytes := by rw [(by assumption : t.tag = 12)]; rfl
                  refine rg ΦBR_ok [2] trivial ?_
                  refine nx ?_
                  refine rt trivial ?_
                  repeat' first | (refine lfL hK trivial ?_; clear hK K') | with_reducible apply And.intro | exact sd | exact sde trivial | exact sdp trivial | refine stk trivial ?_ | fail
                  all_goals
                   refine nx ?_
                   exact ⟨(.dat (.fn (.func 301)), [], true, validB t.bytes), ⟨.inl (by simp [leafS]), hf, fun h' => by first | exact hcn | cases h'⟩, et⟩
                ·intro h; try exact na h
                 all_goals
                  refine rg ΦBR_ok [3, 4, 22] trivial ?_
                  refine cn ?_ ?_
                  ·intro h; try exact na h
                   all_goals
                    have hf : hasFit t.tag = true := decide_eq_true (by omega)
                    have hcn : contOk t.tag t.bytes = t.bytes.all (fun x => prtI (x.toNat : Int)) := by rw [(by assumption : t.tag = 19)]; rfl
                    refine rB ΦBR_ok [2] trivial fun K' hK => ?_
                    repeat' first | with_reducible apply And.intro | exact sd | exact sde trivial | exact sdp trivial | refine stk trivial ?_ | fail
                    refine ec (rs := [.tmp 2]) (n := 4) Tryz.func291 rfl rfl rfl ?_
                    refine rg ΦBR_ok [1] trivial ?_
                    refine rg ΦBR_ok [2] trivial ?_
                    refine nx ?_
                    refine rt trivial ?_
                    repeat' first | (refine lf hK trivial ?_; clear hK K') | with_reducible apply And.intro | exact sd | exact sde trivial | exact sdp trivial | refine stk trivial ?_ | fail
                    all_goals
                     refine nx ?_
                     refine rt trivial ?_
                     repeat' first | (refine lfL hK trivial ?_; clear hK K') | with_reducible apply And.intro | exact sd | exact sde trivial | exact sdp trivial | refine stk trivial ?_ | fail
                     all_goals
                      refine nx ?_
                      exact ⟨(.fn (.func 292) [] [.ref 1 0], [(1, .cells [.dat (.fn (.func 302))] false)], true, t.bytes.all (fun x => prtI (x.toNat : Int))), ⟨.inr (.inr (.inl rfl)), hf, fun h' => by first | exact hcn | cases h'⟩, et⟩
                  ·intro h; try exact na h
                   all_goals
                    refine rg ΦBR_ok [3, 4, 26] trivial ?_
                    refine cn ?_ ?_
                    ·intro h; try exact na h
                     all_goals
                      have hf : hasFit t.tag = true := decide_eq_true (by omega)
                      have hcn : contOk t.tag t.bytes = t.bytes.all (fun x => decide ((x.toNat : Int) < 128)) := by rw [(by assumption : t.tag = 22)]; rfl
                      refine rB ΦBR_ok [2] trivial fun K' hK => ?_
                      repeat' first | with_reducible apply And.intro | exact sd | exact sde trivial | exact sdp trivial | refine stk trivial ?_ | fail
                      refine ec (rs := [.tmp 2]) (n := 4) Tryz.func291 rfl rfl rfl ?_
                      refine rg ΦBR_ok [1] trivial ?_
                      refine rg ΦBR_ok [2] trivial ?_
                      refine nx ?_
                      refine rt trivial ?_
                      repeat' first | (refine lf hK trivial ?_; clear hK K') | with_reducible apply And.intro | exact sd | exact sde trivial | exact sdp trivial | refine stk trivial ?_ | fail
                      all_goals
                       refine nx ?_
                       refine rt trivial ?_
                       repeat' first | (refine lfL hK trivial ?_; clear hK K') | with_reducible apply And.intro | exact sd | exact sde trivial | exact sdp trivial | refine stk trivial ?_ | fail
                       all_goals
                        refine nx ?_
                        exact ⟨(.fn (.func 292) [] [.ref 1 0], [(1, .cells [.dat (.fn (.func 304))] false)], true, t.bytes.all (fun x => decide ((x.toNat : Int) < 128))), ⟨.inr (.inr (.inr rfl)), hf, fun h' => by first | exact hcn | cases h'⟩, et⟩
                    ·intro h; try exact na h
                     all_goals
                      refine rg ΦBR_ok [4, 30] trivial ?_
                      refine cn ?_ ?_
                      ·intro h; try exact na h
                       all_goals
                        have hf : hasFit t.tag = true := decide_eq_true (by omega)
                        have hcn : contOk t.tag t.bytes = utcB t.bytes := by rw [(by assumption : t.tag = 23)]; rfl
                        refine rg ΦBR_ok [2] trivial ?_
                        refine nx ?_
                        refine rt trivial ?_
                        repeat' first | (refine lfL hK trivial ?_; clear hK K') | with_reducible apply And.intro | exact sd | exact sde trivial | exact sdp trivial | refine stk trivial ?_ | fail
                        all_goals
                         refine nx ?_
                         exact ⟨(.dat (.fn (.func 305)), [], true, utcB t.bytes), ⟨.inl (by simp [leafS]), hf, fun h' => by first | exact hcn | cases h'⟩, et⟩
                      ·intro h; try exact na h
                       all_goals
                        refine rg ΦBR_ok [32] trivial ?_
                        refine cn ?_ ?_
                        ·intro h; try exact na h
                         all_goals
                          have hf : hasFit t.tag = true := decide_eq_true (by omega)
                          have hcn : contOk t.tag t.bytes = momB t.bytes := by rw [(by assumption : t.tag = 24)]; rfl
                          refine rg ΦBR_ok [2] trivial ?_
                          refine nx ?_
                          refine rt trivial ?_
                          repeat' first | (refine lfL hK trivial ?_; clear hK K') | with_reducible apply And.intro | exact sd | exact sde trivial | exact sdp trivial | refine stk trivial ?_ | fail
                          all_goals
                           refine nx ?_
                           exact ⟨(.dat (.fn (.func 306)), [], true, momB t.bytes), ⟨.inl (by simp [leafS]), hf, fun h' => by first | exact hcn | cases h'⟩, et⟩
                        ·intro h; try exact na h
                         all_goals
                          have hf : hasFit t.tag = false := decide_eq_false (by omega)
                          have hcn := trivial
                          refine rg ΦBR_ok [2] trivial ?_
                          refine nx ?_
                          refine rt trivial ?_
                          repeat' first | (refine lfL hK trivial ?_; clear hK K') | with_reducible apply And.intro | exact sd | exact sde trivial | exact sdp trivial | refine stk trivial ?_ | fail
                          all_goals
                           refine nx ?_
                           exact ⟨(.dat .nilf, [], false, false), ⟨.inl (by simp [leafS]), hf, fun h' => by first | exact hcn | cases h'⟩, et⟩
 rintro ⟨d, hh, hf, ct⟩ ⟨hm, hF, hC⟩
 dsimp only at hF hC
 unfold leafT at hm
 cases hc : t.cons <;> by_cases hl : t.tag = 16 ∨ t.tag = 17
 all_goals
  obtain ⟨lb, hlb⟩ : ∃ lb, lstB t = lb := ⟨_, rfl⟩
  have hlb2 : lb = decide (t.tag = 16 ∨ t.tag = 17) := hlb.symm
  first | rw [decide_eq_true hl] at hlb2 | rw [decide_eq_false hl] at hlb2
  subst hlb2
  rcases hm with hm | hm | hm | hm
  ·simp only [leafS, List.mem_cons, List.not_mem_nil, or_false, Prod.mk.injEq] at hm
   rcases hm with ⟨rfl, rfl, rfl, rfl⟩ | ⟨rfl, rfl, rfl, rfl⟩ | ⟨rfl, rfl, rfl, rfl⟩ | ⟨rfl, rfl, rfl, rfl⟩ | ⟨rfl, rfl, rfl, rfl⟩ | ⟨rfl, rfl, rfl, rfl⟩ | ⟨rfl, rfl, rfl, rfl⟩ | ⟨rfl, rfl, rfl, rfl⟩ | ⟨rfl, rfl, rfl, rfl⟩
   all_goals
    try exact absurd hl (fit_no hF)
    all_goals
     refine st0 ?_
     refine rB ΦBR_ok [0, 3, 4, 83] (And.intro hc hlb) fun K' hK => ?_
     repeat' first | (refine lf hK (And.intro hc hlb) ?_; clear hK K') | with_reducible apply And.intro | refine sA (And.intro hc hlb) (fun _ => ?_) fun _ => ?_ | refine sAb (And.intro hc hlb) (fun _ => ?_) fun _ => ?_ | refine sAl (And.intro hc hlb) (fun g => ?_) fun g => ?_ | exact sd | exact sde (And.intro hc hlb) | exact sdp (And.intro hc hlb) | refine stk (And.intro hc hlb) ?_ | fail
     all_goals
      refine cn ?_ ?_
      ·intro h; try exact na h
       all_goals
        refine rg ΦBR_ok [2] trivial ?_
        refine fi trivial ?_
        all_goals first
         | (rw [hy]; done)
         | (rw [brk_l h1 h2 h3 hl]; simp_all; done)
         | (rw [brk_p h1 h2 h3 hl]; simp_all; done)
      ·intro h; try exact na h
       all_goals
        refine rB ΦBR_ok [98] (And.intro hc hlb) fun K' hK => ?_
        repeat' first | (refine lf hK (And.intro hc hlb) ?_; clear hK K') | with_reducible apply And.intro | refine sA (And.intro hc hlb) (fun _ => ?_) fun _ => ?_ | refine sAb (And.intro hc hlb) (fun _ => ?_) fun _ => ?_ | refine sAl (And.intro hc hlb) (fun g => ?_) fun g => ?_ | exact sd | exact sde (And.intro hc hlb) | exact sdp (And.intro hc hlb) | refine stk (And.intro hc hlb) ?_ | fail
        all_goals
         refine cn ?_ ?_
         ·intro h; try exact na h
          all_goals
           refine rg ΦBR_ok [2] trivial ?_
           refine fi trivial ?_
           all_goals first
            | (rw [hy]; done)
            | (rw [brk_l h1 h2 h3 hl]; simp_all; done)
            | (rw [brk_p h1 h2 h3 hl]; simp_all; done)
         ·intro h; try exact na h
          all_goals
           refine rg ΦBR_ok [2] trivial ?_
           refine fi trivial ?_
           all_goals first
            | (rw [hy]; done)
            | (rw [brk_l h1 h2 h3 hl]; simp_all; done)
            | (rw [brk_p h1 h2 h3 hl]; simp_all; done)
  ·simp only [Prod.mk.injEq] at hm
   obtain ⟨rfl, rfl, rfl, rfl⟩ := hm
   all_goals
    try exact absurd hl (fit_no hF)
    all_goals
     refine st0 ?_
     refine rB ΦBR_ok [0, 3, 4, 83] (And.intro hc hlb) fun K' hK => ?_
     repeat' first | (refine lf hK (And.intro hc hlb) ?_; clear hK K') | with_reducible apply And.intro | refine sA (And.intro hc hlb) (fun _ => ?_) fun _ => ?_ | refine sAb (And.intro hc hlb) (fun _ => ?_) fun _ => ?_ | refine sAl (And.intro hc hlb) (fun g => ?_) fun g => ?_ | exact sd | exact sde (And.intro hc hlb) | exact sdp (And.intro hc hlb) | refine stk (And.intro hc hlb) ?_ | fail
     all_goals
      refine cn ?_ ?_
      ·intro h; try exact na h
       all_goals
        refine rg ΦBR_ok [2] trivial ?_
        refine fi trivial ?_
        all_goals first
         | (rw [hy]; done)
         | (rw [brk_l h1 h2 h3 hl]; simp_all; done)
         | (rw [brk_p h1 h2 h3 hl]; simp_all; done)
      ·intro h; try exact na h
       all_goals
        refine rB ΦBR_ok [98] (And.intro hc hlb) fun K' hK => ?_
        repeat' first | with_reducible apply And.intro | exact sd | exact sde (And.intro hc hlb) | exact sdp (And.intro hc hlb) | refine stk (And.intro hc hlb) ?_ | fail
        refine only_ok (p := (fun _ => true)) ΦBR_ok ⟨rfl, rfl, rfl, rfl⟩ (by omega) ?_
        refine rt trivial ?_
        repeat' first | (refine lf hK (And.intro hc hlb) ?_; clear hK K') | with_reducible apply And.intro | exact sd | exact sde (And.intro hc hlb) | exact sdp (And.intro hc hlb) | refine stk (And.intro hc hlb) ?_ | fail
        all_goals
         refine cn ?_ ?_
         ·intro h; try exact na h
          all_goals
           refine rg ΦBR_ok [2] trivial ?_
           refine fi trivial ?_
           all_goals first
            | (rw [hy]; done)
            | (rw [brk_l h1 h2 h3 hl]; simp_all; done)
            | (rw [brk_p h1 h2 h3 hl]; simp_all; done)
         ·intro h; try exact na h
          all_goals
           refine rg ΦBR_ok [2] trivial ?_
           refine fi trivial ?_
           all_goals first
            | (rw [hy]; done)
            | (rw [brk_l h1 h2 h3 hl]; simp_all; done)
            | (rw [brk_p h1 h2 h3 hl]; simp_all; done)
  ·simp only [Prod.mk.injEq] at hm
   obtain ⟨rfl, rfl, rfl, rfl⟩ := hm
   all_goals
    try exact absurd hl (fit_no hF)
    all_goals
     refine st0 ?_
     refine rB ΦBR_ok [0, 3, 4, 83] (And.intro hc hlb) fun K' hK => ?_
     repeat' first | (refine lf hK (And.intro hc hlb) ?_; clear hK K') | with_reducible apply And.intro | refine sA (And.intro hc hlb) (fun _ => ?_) fun _ => ?_ | refine sAb (And.intro hc hlb) (fun _ => ?_) fun _ => ?_ | refine sAl (And.intro hc hlb) (fun g => ?_) fun g => ?_ | exact sd | exact sde (And.intro hc hlb) | exact sdp (And.intro hc hlb) | refine stk (And.intro hc hlb) ?_ | fail
     all_goals
      refine cn ?_ ?_
      ·intro h; try exact na h
       all_goals
        refine rg ΦBR_ok [2] trivial ?_
        refine fi trivial ?_
        all_goals first
         | (rw [hy]; done)
         | (rw [brk_l h1 h2 h3 hl]; simp_all; done)
         | (rw [brk_p h1 h2 h3 hl]; simp_all; done)
      ·intro h; try exact na h
       all_goals
        refine rB ΦBR_ok [98] (And.intro hc hlb) fun K' hK => ?_
        repeat' first | with_reducible apply And.intro | exact sd | exact sde (And.intro hc hlb) | exact sdp (And.intro hc hlb) | refine stk (And.intro hc hlb) ?_ | fail
        refine only_ok (p := prtI) ΦBR_ok ⟨rfl, rfl, rfl, rfl⟩ (by omega) ?_
        refine rt trivial ?_
        repeat' first | (refine lf hK (And.intro hc hlb) ?_; clear hK K') | with_reducible apply And.intro | exact sd | exact sde (And.intro hc hlb) | exact sdp (And.intro hc hlb) | refine stk (And.intro hc hlb) ?_ | fail
        all_goals
         refine cn ?_ ?_
         ·intro h; try exact na h
          all_goals
           refine rg ΦBR_ok [2] trivial ?_
           refine fi trivial ?_
           all_goals first
            | (rw [hy]; done)
            | (rw [brk_l h1 h2 h3 hl]; simp_all; done)
            | (rw [brk_p h1 h2 h3 hl]; simp_all; done)
         ·intro h; try exact na h
          all_goals
           refine rg ΦBR_ok [2] trivial ?_
           refine fi trivial ?_
           all_goals first
            | (rw [hy]; done)
            | (rw [brk_l h1 h2 h3 hl]; simp_all; done)
            | (rw [brk_p h1 h2 h3 hl]; simp_all; done)
  ·simp only [Prod.mk.injEq] at hm
   obtain ⟨rfl, rfl, rfl, rfl⟩ := hm
   all_goals
    try exact absurd hl (fit_no hF)
    all_goals
     refine st0 ?_
     refine rB ΦBR_ok [0, 3, 4, 83] (And.intro hc hlb) fun K' hK => ?_
     repeat' first | (refine lf hK (And.intro hc hlb) ?_; clear hK K') | with_reducible apply And.intro | refine sA (And.intro hc hlb) (fun _ => ?_) fun _ => ?_ | refine sAb (And.intro hc hlb) (fun _ => ?_) fun _ => ?_ | refine sAl (And.intro hc hlb) (fun g => ?_) fun g => ?_ | exact sd | exact sde (And.intro hc hlb) | exact sdp (And.intro hc hlb) | refine stk (And.intro hc hlb) ?_ | fail
     all_goals
      refine cn ?_ ?_
      ·intro h; try exact na h
       all_goals
        refine rg ΦBR_ok [2] trivial ?_
        refine fi trivial ?_
        all_goals first
         | (rw [hy]; done)
         | (rw [brk_l h1 h2 h3 hl]; simp_all; done)
         | (rw [brk_p h1 h2 h3 hl]; simp_all; done)
      ·intro h; try exact na h
       all_goals
        refine rB ΦBR_ok [98] (And.intro hc hlb) fun K' hK => ?_
        repeat' first | with_reducible apply And.intro | exact sd | exact sde (And.intro hc hlb) | exact sdp (And.intro hc hlb) | refine stk (And.intro hc hlb) ?_ | fail
        refine only_ok (p := (fun c => decide (c < 128))) ΦBR_ok ⟨rfl, rfl, rfl, rfl⟩ (by omega) ?_
        refine rt trivial ?_
        repeat' first | (refine lf hK (And.intro hc hlb) ?_; clear hK K') | with_reducible apply And.intro | exact sd | exact sde (And.intro hc hlb) | exact sdp (And.intro hc hlb) | refine stk (And.intro hc hlb) ?_ | fail
        all_goals
         refine cn ?_ ?_
         ·intro h; try exact na h
          all_goals
           refine rg ΦBR_ok [2] trivial ?_
           refine fi trivial ?_
           all_goals first
            | (rw [hy]; done)
            | (rw [brk_l h1 h2 h3 hl]; simp_all; done)
            | (rw [brk_p h1 h2 h3 hl]; simp_all; done)
         ·intro h; try exact na h
          all_goals
           refine rg ΦBR_ok [2] trivial ?_
           refine fi trivial ?_
           all_goals first
            | (rw [hy]; done)
            | (rw [brk_l h1 h2 h3 hl]; simp_all; done)
            | (rw [brk_p h1 h2 h3 hl]; simp_all; done))
end Go.Proofs.YtpajpkbipagjpaaGreatDoor.Oc
namespace Go.Proofs.YtpajpkbipagjpaaGreatDoor.Oc
open Go Go.RowKit Go.Proofs.YtpajpkbipagjpaaGreatDoor.Vm Go.Proofs.YtpajpkbipagjpaaGreatDoor.Tr Go.IntWalk
set_option maxRecDepth 100000
set_option maxHeartbeats 4000000
def wrS (x : T) (s : Int × Int) : Bool × (Int × Int) := if 0 < brkN x then (false, (brkN x, s.2)) else (true, (brkN x, IntKind.i64.wrap (s.2 + 1)))
def wrF (t : T) : Int × Int := if 24 < dep t then (5, 0) else if 4000 < t.all.length then (6, 0) else match fld wrS t.all (0, 0) with
 | (true, _) => (0, -1)
 | (false, s) => s
theorem brk_in (t : T) : 0 ≤ brkN t ∧ brkN t ≤ 4 := by
 unfold brkN
 (repeat' split) <;> omega
theorem fld_wr : ∀ (l : List T) (s : Int × Int), s.1 = 0 → (∃ k, fld wrS l s = (true, (0, k)) ∧ ∀ x ∈ l, brkN x = 0) ∨ (∃ r k, fld wrS l s = (false, (r, k)) ∧ 0 < r ∧ r ≤ 4 ∧ ¬ ∀ x ∈ l, brkN x = 0)
 | [], s, h => .inl ⟨s.2, by rw [fld, ← h], by simp⟩
 | x :: r, s, h => by
   have hx := brk_in x
   by_cases hb : 0 < brkN x
   ·refine .inr ⟨brkN x, s.2, ?_, hb, hx.2, fun ha => ?_⟩
    ·rw [fld, wrS, if_pos hb]
    ·have := ha x (by simp); omega
   ·have h0 : brkN x = 0 := by omega
    have e : fld wrS (x :: r) s = fld wrS r (brkN x, IntKind.i64.wrap (s.2 + 1)) := by rw [fld, wrS, if_neg hb]
    rw [e]
    rcases fld_wr r (brkN x, IntKind.i64.wrap (s.2 + 1)) h0 with ⟨k, h1, h2⟩ | ⟨r1, k, h1, h2, h3, h4⟩
    ·exact .inl ⟨k, h1, fun y hy => by rcases List.mem_cons.1 hy with rfl | hy; exact h0; exact h2 y hy⟩
    ·exact .inr ⟨r1, k, h1, h2, h3, fun ha => h4 fun y hy => ha y (by simp [hy])⟩
def fitT (t : T) : Bool := decide (dep t ≤ 24 ∧ t.all.length ≤ 4000) && t.all.all fun x => decide (brkN x = 0)
theorem wrF_ok (t : T) : (0 < (wrF t).1 ∧ fitT t = false) ∨ ((wrF t).1 = 0 ∧ fitT t = true) := by
 unfold wrF fitT
 by_cases h1 : 24 < dep t
 ·rw [if_pos h1]; left; exact ⟨by decide, by rw [decide_eq_false (by omega), Bool.false_and]⟩
 ·rw [if_neg h1]
  by_cases h2 : 4000 < t.all.length
  ·rw [if_pos h2]; left; exact ⟨by decide, by rw [decide_eq_false (by omega), Bool.false_and]⟩
  ·rw [if_neg h2, decide_eq_true (by omega), Bool.true_and]
   rcases fld_wr t.all (0, 0) rfl with ⟨k, h3, h4⟩ | ⟨r, k, h3, h4, _, h5⟩
   ·rw [h3]; right; exact ⟨rfl, by rw [List.all_eq_true]; intro x hx; exact decide_eq_true (h4 x hx)⟩
   ·rw [h3]; left
    refine ⟨h4, ?_⟩
    cases ha : t.all.all fun x => decide (brkN x = 0) with
    | false => rfl
    | true =>
      rw [List.all_eq_true] at ha
      exact absurd (fun x hx => of_decide_eq_true (ha x hx)) h5
theorem wrF_no1 {t : T} (h : 24 < (dep t : Int)) : (wrF t).1 = 5 ∧ (wrF t).2 = 0 := by unfold wrF; rw [if_pos (by omega)]; exact ⟨rfl, rfl⟩
theorem wrF_no2 {t : T} (h : ¬ 24 < (dep t : Int)) (h2 : 4000 < (t.all.length : Int)) : (wrF t).1 = 6 ∧ (wrF t).2 = 0 := by unfold wrF; rw [if_neg (by omega), if_pos (by omega)]; exact ⟨rfl, rfl⟩
theorem wrF_t {t : T} (h : ¬ 24 < (dep t : Int)) (h2 : ¬ 4000 < (t.all.length : Int)) {s : Int × Int} (hf : fld wrS t.all (0, 0) = (true, s)) : (wrF t).1 = 0 ∧ (wrF t).2 = -1 := by unfold wrF; rw [if_neg (by omega), if_neg (by omega), hf]; exact ⟨rfl, rfl⟩
theorem wrF_f {t : T} (h : ¬ 24 < (dep t : Int)) (h2 : ¬ 4000 < (t.all.length : Int)) {s : Int × Int} (hf : fld wrS t.all (0, 0) = (false, s)) : (wrF t).1 = s.1 ∧ (wrF t).2 = s.2 := by unfold wrF; rw [if_neg (by omega), if_neg (by omega), hf]; exact ⟨rfl, rfl⟩
noncomputable def ΦWN : Fns := tab [(209, cnt0F), (211, brknF)]
theorem ΦWN_ok : Sound E ΦWN := sound_cons (by kernel_rfl) cnt0_ok (sound_cons (by kernel_rfl) brkn_ok (sound_nil))
@[go_sem] theorem ΦWN_r : ΦWN 209 = some cnt0F ∧ ΦWN 211 = some brknF ∧ ΦWN 210 = none ∧ ΦWN 251 = none := ⟨rfl, rfl, rfl, rfl⟩
@[go_sem] noncomputable def wrongnF : PFn := PF [ST] (fun (t : T) => t.sz ≤ 90000000) (fun (t : T) => [.int .i64 (wrF t).1, .int .i64 (wrF t).2])
theorem wrongn_ok : Pure E 158 wrongnF := Pure.of_sig (rs := [.cell 2 3, .tmp 3]) (n := 31) Tryz.func158 rfl rfl rfl (Nat.le_of_ble_eq_true rfl) (by
 intro (t : T) hds
 have hkl := kids_len t
 refine st0 ?_
 refine rg ΦWN_ok [1, 2, 7] trivial ?_
 refine rg ΦWN_ok [1, 2, 4, 5, 7] trivial ?_
 refine rg ΦWN_ok [1, 2, 4, 7, 13] trivial ?_
 refine cn ?_ ?_
 ·intro h; try exact na h
  all_goals
   have hy := wrF_no1 (t := t) (by omega)
   refine rg ΦWN_ok [2, 3] trivial ?_
   first
   | exact fz hy
   | (refine nx ?_
      refine pureK_r (pureS_one (l := 20) (by simp -implicitDefEqProofs only [go_sem]) ?_)
      exact fz hy)
 ·intro h; try exact na h
  all_goals
   have hd1 : ¬ 24 < (dep t : Int) := by omega
   refine rg ΦWN_ok [1, 2, 7, 16] trivial ?_
   refine cn ?_ ?_
   ·intro h; try exact na h
    all_goals
     have hy := wrF_no2 hd1 (by omega)
     refine rg ΦWN_ok [2, 3] trivial ?_
     first
     | exact fz hy
     | (refine nx ?_
        refine pureK_r (pureS_one (l := 20) (by simp -implicitDefEqProofs only [go_sem]) ?_)
        exact fz hy)
   ·intro h; try exact na h
    all_goals
     have hd2 : ¬ 4000 < (t.all.length : Int) := by omega
     refine rg ΦWN_ok [1, 2, 6, 7] trivial ?_
     refine rB ΦWN_ok [2, 6, 7, 19] trivial fun K' hK => ?_
     repeat' first | with_reducible apply And.intro | exact sd | exact sde trivial | exact sdp trivial | refine stk trivial ?_ | fail
     refine ec (rs := [.tmp 2]) (n := 4) Tryz.func210 rfl rfl rfl ?_
     refine rg ΦWN_ok [1] trivial ?_
     refine rg ΦWN_ok [2] trivial ?_
     refine nx ?_
     refine rt trivial ?_
     repeat' first | (refine lf hK trivial ?_; clear hK K') | with_reducible apply And.intro | exact sd | exact sde trivial | exact sdp trivial | refine stk trivial ?_ | fail
     all_goals
      refine nx ?_
      refine re (rs := []) (n := 6) 20 21 Tryz.func250 rfl rfl rfl fun A B hA hB => ?_
      refine rBL ΦWN_ok  trivial fun K' hK => ?_
      repeat' first | with_reducible apply And.intro | exact sd | exact sde trivial | exact sdp trivial | refine stk trivial ?_ | fail
      refine VCcall.frzArg (x := _) (st' := _) (by (simp -implicitDefEqProofs only [go_sem]; exact rfl)) ?_
      refine walk_ok (l := 21) (H := fun (k : Int × Int) => [(21, .loop [(2, .ref 2 0), (6, .ref 3 0), (7, .junk), (19, .fn (.func 250) [] [.ref 4 0])] 31 [20] A B .ready none), (20, .defer), (4, .cells [.ref 1 0] false), (3, .cells [.dat (.int .i64 k.2)] false), (2, .cells [.dat (.int .i64 k.1)] false), (1, .cells [.dat (.int .i64 t.cls), .dat (.int .i64 t.tag), .dat (.bool t.cons), .dat (.lst (bytesD t.bytes)), .dat (.lst (nodesD t.kids))] true)]) (HL := fun (k : Int × Int) => [(21, .loop [(2, .ref 2 0), (6, .ref 3 0), (7, .junk), (19, .fn (.func 250) [] [.ref 4 0])] 31 [20] A B .done (some (.exit 1))), (20, .defer), (4, .cells [.ref 1 0] false), (3, .cells [.dat (.int .i64 k.2)] false), (2, .cells [.dat (.int .i64 k.1)] false), (1, .cells [.dat (.int .i64 t.cls), .dat (.int .i64 t.tag), .dat (.bool t.cons), .dat (.lst (bytesD t.bytes)), .dat (.lst (nodesD t.kids))] true)]) (f := wrS) (P := fun x => x.sz ≤ 100000000) ?_ t.sz t (Nat.le_refl _) (by omega) (fun x hx => Nat.le_trans (all_sz t x hx) (by omega)) _ _ (0, 0) _ ?_
      ·intro x k c stk K hP hK
       by_cases hb : 0 < brkN x
       ·have hw : wrS x k = (false, (brkN x, k.2)) := if_pos hb
        rw [hw] at hK
        dsimp only [goW] at hK
        refine yd hA ?_
        refine rgL ΦWN_ok trivial ?_
        refine nx ?_
        refine yb hB ?_
        refine rg ΦWN_ok [2, 6] trivial ?_
        refine rg ΦWN_ok [6, 24] trivial ?_
        refine cn ?_ ?_
        ·intro h; try exact na h
         all_goals
          refine nx ?_
          refine rt trivial ?_
          exact hK
        ·exact fun h => na h
       ·have hw : wrS x k = (true, (brkN x, IntKind.i64.wrap (k.2 + 1))) := if_neg hb
        rw [hw] at hK
        dsimp only [goW] at hK
        refine yd hA ?_
        refine rgL ΦWN_ok trivial ?_
        refine nx ?_
        refine yb hB ?_
        refine rg ΦWN_ok [2, 6] trivial ?_
        refine rg ΦWN_ok [6, 24] trivial ?_
        refine cn ?_ ?_
        ·exact fun h => na h
        intro h
        refine rgL ΦWN_ok trivial ?_
        refine nx ?_
        refine rt trivial ?_
        exact hK
      rcases fld_wr t.all (0, 0) rfl with ⟨k1, hfd, _⟩ | ⟨r1, k1, hfd, hr1, hr2, _⟩
      ·rw [hfd]
       dsimp only [goW]
       refine rt trivial ?_
       have hy := wrF_t hd1 hd2 hfd
       repeat' first | (refine lfL hK trivial ?_; clear hK K') | with_reducible apply And.intro | exact sd | exact sde trivial | exact sdp trivial | refine stk trivial ?_ | fail
       all_goals
        refine nx ?_
        refine rt trivial ?_
        refine ya ?_
        refine rg ΦWN_ok [2, 6, 28] trivial ?_
        refine cn ?_ ?_
        ·intro h; try exact na h
         all_goals
          refine rg ΦWN_ok [2, 3] trivial ?_
          first
          | exact fz hy
          | (refine nx ?_
             refine pureK_r (pureS_one (l := 20) (by simp -implicitDefEqProofs only [go_sem]) ?_)
             exact fz hy)
        ·intro h; try exact na h
         all_goals
          refine dT ΦWN_ok (.alt 0 (.alt 1 (.alt 2 (.alt 3 .stop .done) .done) (.alt 2 (.alt 1 (.alt 3 .stop .done) .done) .done)) (.alt 1 (.alt 0 (.alt 2 (.alt 3 .stop .done) .done) .done) .done)) [2, 3] trivial ?_
          first
          | exact fz hy
          | (refine nx ?_
             refine pureK_r (pureS_one (l := 20) (by simp -implicitDefEqProofs only [go_sem]) ?_)
             exact fz hy)
      ·rw [hfd]
       dsimp only [goW]
       refine rt trivial ?_
       have hy := wrF_f hd1 hd2 hfd
       repeat' first | (refine lfL hK trivial ?_; clear hK K') | with_reducible apply And.intro | exact sd | exact sde trivial | exact sdp trivial | refine stk trivial ?_ | fail
       all_goals
        refine nx ?_
        refine rt trivial ?_
        refine yc ?_
        refine rg ΦWN_ok [2, 6, 28] trivial ?_
        refine cn ?_ ?_
        ·intro h; try exact na h
         all_goals
          refine rg ΦWN_ok [2, 3] trivial ?_
          first
          | exact fz hy
          | (refine nx ?_
             refine pureK_r (pureS_one (l := 20) (by simp -implicitDefEqProofs only [go_sem]) ?_)
             exact fz hy)
        ·intro h; try exact na h
         all_goals
          refine dT ΦWN_ok (.alt 0 (.alt 1 (.alt 2 (.alt 3 .stop .done) .done) (.alt 2 (.alt 1 (.alt 3 .stop .done) .done) .done)) (.alt 1 (.alt 0 (.alt 2 (.alt 3 .stop .done) .done) .done) .done)) [2, 3] trivial ?_
          first
          | exact fz hy
          | (refine nx ?_
             refine pureK_r (pureS_one (l := 20) (by simp -implicitDefEqProofs only [go_sem]) ?_)
             exact fz hy))
noncomputable def ΦKN : Fns := tab [(158, wrongnF)]
theorem ΦKN_ok : Sound E ΦKN := sound_cons (by kernel_rfl) wrongn_ok (sound_nil)
@[go_sem] theorem ΦKN_r : ΦKN 158 = some wrongnF := rfl
@[go_sem] noncomputable def checknF : PFn := PF [ST] (fun (t : T) => t.sz ≤ 90000000) (fun (t : T) => [.int .i64 (if fitT t = true then 0 else 110)])
theorem checkn_ok : Pure E 116 checknF := Pure.of_sig (rs := [.tmp 2]) (n := 12) Tryz.func116 rfl rfl rfl (Nat.le_of_ble_eq_true rfl) (by
 intro (t : T) hds
 have hw := wrF_ok t
 refine st0 ?_
 refine rg ΦKN_ok [1] trivial ?_
 refine rg ΦKN_ok [3] trivial ?_
 refine rg ΦKN_ok [11] trivial ?_
 refine cn ?_ ?_
 ·intro h; try exact na h
  all_goals
   have hy : (if fitT t = true then 0 else 110 : Int) = 110 := if_neg (by rcases hw with h | h; simp [h.2]; omega)
   refine rg ΦKN_ok [2] trivial ?_
   first
   | exact fz hy
 ·intro h; try exact na h
  all_goals
   have hy : (if fitT t = true then 0 else 110 : Int) = 0 := if_pos (by rcases hw with h | h; omega; exact h.2)
   refine rg ΦKN_ok [2] trivial ?_
   first
   | exact fz hy)
end Go.Proofs.YtpajpkbipagjpaaGreatDoor.Oc
namespace Go.Proofs.YtpajpkbipagjpaaGreatDoor.Oc
open Go Go.RowKit Go.Proofs.YtpajpkbipagjpaaGreatDoor.Vm Go.Proofs.YtpajpkbipagjpaaGreatDoor.Tr Go.IntWalk
set_option maxRecDepth 100000
set_option maxHeartbeats 4000000
def capN (n : Nat) : Nat := if 65537 < n then 65537 else n
def szC (t : T) : Nat := 1 + (lenB (capN (conN t))).length + capN (conN t)
theorem cap_le (n : Nat) : capN n ≤ 65537 := by unfold capN; split <;> omega
theorem capI (n : Nat) : (if (65537 : Int) < (n : Int) then 65537 else (n : Int)) = (capN n : Int) := by
 unfold capN
 split
 ·rw [if_pos (by omega)]; rfl
 ·rw [if_neg (by omega)]
theorem szC_small {t : T} (h : conN t ≤ 65537) : szC t = (encT t).length := by
 rw [szC, capN, if_neg (by omega), encT_len]
theorem szC_ge {t : T} (h : ¬ conN t ≤ 65537) : 65537 < szC t ∧ 65537 < (encT t).length := by
 have := lenB_pos (capN (conN t))
 have h2 := lenB_pos (conN t)
 rw [szC, encT_len]
 unfold capN at *
 rw [if_pos (by omega)] at *
 omega
theorem szC_le (t : T) : szC t ≤ 70000 := by
 have := cap_le (conN t)
 have := lenB_le (n := capN (conN t)) (by omega)
 unfold szC; omega
theorem cap_step (a : Nat) (t : T) : (if (65537 : Int) < (capN a : Int) + (szC t : Int) then 65537 else (capN a : Int) + (szC t : Int)) = (capN (a + (encT t).length) : Int) := by
 rw [← Int.natCast_add, capI]
 congr 1
 by_cases h : conN t ≤ 65537
 ·rw [szC_small h]; unfold capN; (repeat' split) <;> omega
 ·have := szC_ge h
  unfold capN; (repeat' split) <;> omega
theorem szC_long (t : T) : (65536 : Int) < (szC t : Int) ↔ 65536 < (encT t).length := by
 by_cases h : conN t ≤ 65537
 ·rw [szC_small h]; omega
 ·have := szC_ge h; omega
theorem szC_short {t : T} (h : ¬ 65536 < (encT t).length) : szC t = (encT t).length := by
 by_cases h1 : conN t ≤ 65537
 ·exact szC_small h1
 ·have := szC_ge h1; omega
theorem cap0 (t : T) : (capN (t.bytes.length + (encsT (t.kids.take 0)).length) : Int) = (capN t.bytes.length : Int) := by rw [encs0, Nat.add_zero]
theorem capEnd {t : T} {i : Nat} (h : i = t.kids.length) : (capN (t.bytes.length + (encsT (t.kids.take i)).length) : Int) = (capN (conN t) : Int) := by
 unfold conN; rw [h, List.take_length]
theorem capNext {t : T} {i : Nat} (h : i < t.kids.length) : (if (65537 : Int) < (capN (t.bytes.length + (encsT (t.kids.take i)).length) : Int) + (szC (t.kids.getD i T.zero) : Int) then 65537 else (capN (t.bytes.length + (encsT (t.kids.take i)).length) : Int) + (szC (t.kids.getD i T.zero) : Int)) = (capN (t.bytes.length + (encsT (t.kids.take (i + 1))).length) : Int) := by
 rw [cap_step, encs_lenN h, Nat.add_assoc]
def dszE (t : T) : Int := if fitT t = true then (if 65536 < (encT t).length then 120 else 0) else 110
def dszN (t : T) : Int := if dszE t = 0 then (encT t).length else 0
theorem dsz_bad {t : T} (h : fitT t = false) : dszE t = 110 ∧ dszN t = 0 := by
 have : dszE t = 110 := if_neg (by rw [h]; decide)
 exact ⟨this, by unfold dszN; rw [this]; rfl⟩
theorem dsz_long {t : T} (h : fitT t = true) (h2 : (65536 : Int) < (szC t : Int)) : dszE t = 120 ∧ dszN t = 0 := by
 have : dszE t = 120 := by unfold dszE; rw [if_pos h, if_pos ((szC_long t).1 h2)]
 exact ⟨this, by unfold dszN; rw [this]; rfl⟩
theorem dsz_ok {t : T} (h : fitT t = true) (h2 : ¬ (65536 : Int) < (szC t : Int)) : dszE t = 0 ∧ dszN t = (szC t : Int) := by
 have hn : ¬ 65536 < (encT t).length := fun h3 => h2 ((szC_long t).2 h3)
 have : dszE t = 0 := by unfold dszE; rw [if_pos h, if_neg hn]
 exact ⟨this, by unfold dszN; rw [this, szC_short hn]; rfl⟩
@[go_sem] noncomputable def gconF (n : Nat) : PFn := PF [SPt] (fun (t : T) => t.sz < n ∧ t.sz ≤ 16000000) (fun (t : T) => [.int .i64 (capN (conN t) : Int)])
@[go_sem] noncomputable def gsizF (n : Nat) : PFn := PF [SPt] (fun (t : T) => t.sz < n ∧ t.sz ≤ 16000000) (fun (t : T) => [.int .i64 (szC t : Int)])
noncomputable def ΦGz (m : Nat) : Fns := tab [(184, lenF), (183, gconF m)]
theorem ΦGz_ok {m : Nat} (h : Pure E 183 (gconF m)) : Sound E (ΦGz m) := sound_cons (by kernel_rfl) len_ok (sound_cons (by kernel_rfl) h sound_nil)
@[go_sem] theorem ΦGz_r (m : Nat) : ΦGz m 184 = some lenF ∧ ΦGz m 183 = some (gconF m) := ⟨rfl, rfl⟩
theorem gsiz_of {m : Nat} (hS : Pure E 183 (gconF m)) : Pure E 135 (gsizF m) := Pure.of_sig (rs := [.tmp 2]) (n := 12) Tryz.func135 rfl rfl rfl (Nat.le_of_ble_eq_true rfl) (by
 intro (t : T) hds
 have hΦ := ΦGz_ok hS
 have hcl := cap_le (conN t)
 have hll := lenB_le (n := capN (conN t)) (by omega)
 have hd2 : szC t = 1 + (lenB (capN (conN t))).length + capN (conN t) := rfl
 refine st0 ?_
 refine rg hΦ [0] (And.intro Int.toNat_natCast trivial) ?_
 refine rg hΦ [3] (And.intro Int.toNat_natCast trivial) ?_
 skip
 refine rg hΦ [2] (And.intro Int.toNat_natCast trivial) ?_
 refine fi (And.intro bytesD_len Int.toNat_natCast) ?_
 omega)
noncomputable def ΦGo (m : Nat) : Fns := tab [(135, gsizF m)]
theorem ΦGo_ok {m : Nat} (h : Pure E 183 (gconF m)) : Sound E (ΦGo m) := sound_cons (by kernel_rfl) (gsiz_of h) sound_nil
@[go_sem] theorem ΦGo_r (m : Nat) : ΦGo m 135 = some (gsizF m) := rfl
theorem gcon_ok (n : Nat) : Pure E 183 (gconF n) := by
 induction n using Nat.strongRecOn with
 | _ n ih =>
 exact Pure.of_sig (rs := [.tmp 2]) (n := 31) Tryz.func183 rfl rfl rfl (Nat.le_of_ble_eq_true rfl) (by
  intro (t : T) hds
  have hΦ := ΦGo_ok (ih t.sz (by omega))
  have hkl := kids_len t
  refine st0 ?_
  refine rg hΦ [0] trivial ?_
  refine rg hΦ [0, 3] capI ?_
  refine rg hΦ [0, 3, 15, 16] trivial ?_
  refine nx ?_
  refine VC.loopP (ι := Nat) [0, 15] (fun i => [(3, .dat (.int .i64 (capN (t.bytes.length + (encsT (t.kids.take i)).length) : Int))), (16, .dat (.int .i64 (i : Int)))]) (fun _ => []) (fun i => i ≤ t.kids.length) (fun i => t.kids.length - i) 0 (by omega) (ete (cap0 t)) ?_
  rintro i hp; try dsimp only at hp
  refine st0 ?_
  refine rg hΦ [0, 3, 15, 16, 17] trivial ?_
  refine cn ?_ ?_
  ·intro h; try exact nd h
   all_goals
    have hi : i < t.kids.length := by omega
    refine rg hΦ [0, 3, 4, 15, 16] trivial ?_
    have hk := T.kid_sz (kid_mem' hi)
    have hca := cap_le (t.bytes.length + (encsT (t.kids.take i)).length)
    have hsz := szC_le (t.kids.getD i T.zero)
    have hna := capNext hi
    refine rgL hΦ (And.intro hna (nodesD_at hi)) ?_
    refine rgL hΦ trivial ?_
    refine nx ?_
    exact ⟨i + 1, by omega, ete hna, by omega⟩
  ·intro h; try exact nd h
   all_goals
    have hy := capEnd (t := t) (i := i) (by omega)
    refine rg hΦ [2] trivial ?_
    first
    | exact fz hy)
@[go_sem] noncomputable def gcon0F : PFn := gconF 16000001
theorem gcon0_ok : Pure E 183 gcon0F := gcon_ok 16000001
@[go_sem] noncomputable def gsiz0F : PFn := gsizF 16000001
theorem gsiz0_ok : Pure E 135 gsiz0F := gsiz_of (gcon_ok 16000001)
noncomputable def ΦGS : Fns := tab [(116, checknF), (135, gsiz0F)]
theorem ΦGS_ok : Sound E ΦGS := sound_cons (by kernel_rfl) checkn_ok (sound_cons (by kernel_rfl) gsiz0_ok (sound_nil))
@[go_sem] theorem ΦGS_r : ΦGS 116 = some checknF ∧ ΦGS 135 = some gsiz0F := ⟨rfl, rfl⟩
theorem ok_t {t : T} (h : (if fitT t = true then 0 else 110 : Int) = 0) : fitT t = true := by
 by_cases ht : fitT t = true
 ·exact ht
 ·rw [if_neg ht] at h; exact absurd h (by decide)
theorem ok_f {t : T} (h : ¬ (if fitT t = true then 0 else 110 : Int) = 0) : fitT t = false := by
 cases ht : fitT t with
 | false => rfl
 | true => rw [if_pos ht] at h; exact absurd rfl h
@[go_sem] noncomputable def gsizeF : PFn := PF [ST] (fun (t : T) => t.sz ≤ 16000000) (fun (t : T) => [.int .i64 (dszN t), .int .i64 (dszE t)])
theorem gsize_ok : Pure E 97 gsizeF := Pure.of_sig (rs := [.tmp 2, .tmp 3]) (n := 15) Tryz.func97 rfl rfl rfl (Nat.le_of_ble_eq_true rfl) (by
 intro (t : T) hds
 have hs := szC_le t
 refine st0 ?_
 refine rg ΦGS_ok [1] trivial ?_
 refine rg ΦGS_ok [1, 4] trivial ?_
 refine rg ΦGS_ok [1, 4, 9] trivial ?_
 refine cn ?_ ?_
 ·intro h; try exact na h
  all_goals
   have hy := dsz_bad (t := t) (ok_f (by assumption))
   have hy2 : (if fitT t = true then 0 else 110 : Int) = 110 := if_neg (by rw [ok_f (by assumption)]; decide)
   refine rg ΦGS_ok [2, 3] hy2 ?_
   first
   | exact fz hy
   | exact fz trivial
 ·intro h; try exact na h
  all_goals
   refine rg ΦGS_ok [5] trivial ?_
   refine rg ΦGS_ok [5, 13] trivial ?_
   refine cn ?_ ?_
   ·intro h; try exact na h
    all_goals
     have hy := dsz_long (t := t) (ok_t (by assumption)) (by assumption)
     refine rg ΦGS_ok [2, 3] trivial ?_
     first
     | exact fz hy
     | exact fz trivial
   ·intro h; try exact na h
    all_goals
     have hy := dsz_ok (t := t) (ok_t (by assumption)) (by assumption)
     refine rg ΦGS_ok [2, 3] trivial ?_
     first
     | exact fz hy
     | exact fz trivial)
end Go.Proofs.YtpajpkbipagjpaaGreatDoor.Oc
namespace Go.Proofs.YtpajpkbipagjpaaGreatDoor.Oc
open Go Go.RowKit Go.Proofs.YtpajpkbipagjpaaGreatDoor.Vm Go.Proofs.YtpajpkbipagjpaaGreatDoor.Tr Go.IntWalk
set_option maxRecDepth 100000
set_option maxHeartbeats 4000000
def okN (t : T) : Prop := 0 ≤ t.cls ∧ t.cls ≤ 3 ∧ 0 ≤ t.tag ∧ t.tag ≤ 30
noncomputable def ΦTE : Fns := tab [(183, dcon0F), (184, len1F)]
theorem ΦTE_ok : Sound E ΦTE := sound_cons (by kernel_rfl) dcon0_ok (sound_cons (by kernel_rfl) len1_ok (sound_nil))
@[go_sem] theorem ΦTE_r : ΦTE 183 = some dcon0F ∧ ΦTE 184 = some len1F ∧ ΦTE 189 = none := ⟨rfl, rfl, rfl⟩
@[go_sem] theorem ΦTE_c : callable Tryz.prog 189 = true := by kernel_rfl
theorem firstA : ∀ (c : Fin 4) (g : Fin 31), IntKind.u8.wrap (bits .or .i64 (IntKind.i64.wrap ((c.val : Int) * 2 ^ min (Int.toNat 6) 64)) (g.val : Int)) = ((tagB (c.val : Int) (g.val : Int) false).toNat : Int) ∧ bits .or .u8 ((tagB (c.val : Int) (g.val : Int) false).toNat : Int) 32 = ((tagB (c.val : Int) (g.val : Int) true).toNat : Int) := by decide +kernel
theorem first_ok {t : T} (h : okN t) : IntKind.u8.wrap (bits .or .i64 (IntKind.i64.wrap (t.cls * 2 ^ min (Int.toNat 6) 64)) t.tag) = ((tagB t.cls t.tag false).toNat : Int) ∧ bits .or .u8 ((tagB t.cls t.tag false).toNat : Int) 32 = ((tagB t.cls t.tag true).toNat : Int) := by
 obtain ⟨h1, h2, h3, h4⟩ := h
 have := firstA ⟨t.cls.toNat, by omega⟩ ⟨t.tag.toNat, by omega⟩
 simp only [Int.toNat_of_nonneg h1, Int.toNat_of_nonneg h3] at this
 exact this
theorem tell_ok {H : List UInt8 → List (Nat × Blk)} {LIM : Nat}
 (step : ∀ {b out : List UInt8} {c : Fr} {stk : List Fr} {K : D → St → Prop}, Cln 3 c stk → (out ++ b).length ≤ LIM → K (.dat (.bool true)) ⟨c, stk, H (out ++ b)⟩ → VCyield E 21 [.dat (.lst (bytesD b))] ⟨c, stk, H out⟩ K) :
 ∀ (n : Nat) (t : T), t.sz ≤ n → t.sz ≤ 100 → (∀ x ∈ t.all, okN x) → ∀ (c : Fr) (stk : List Fr) (out : List UInt8) (K : D → St → Prop), Cln 3 c stk → (out ++ encT t).length ≤ LIM → K (.dat (.bool true)) ⟨c, stk, H (out ++ encT t)⟩ →
  VCcall E 189 [.dat (.ptr [.int .i64 t.cls, .int .i64 t.tag, .bool t.cons, .lst (bytesD t.bytes), .lst (nodesD t.kids)]), .yld 21] ⟨c, stk, H out⟩ K := by
 intro n
 induction n using Nat.strongRecOn with
 | _ n ih =>
 intro t hn hbig hg c stk out K hcl hlim hK0
 have hkl := kids_len t
 have h0 := hg t (by rw [T.all_eq]; exact List.mem_cons_self)
 have hdl := enc_le (t := t) (by omega)
 have hLm : out.length + (1 + (lenB (conN t)).length + conN t) ≤ LIM := by have := hlim; rw [List.length_append, encT_len] at this; exact this
 have hcn : conN t = t.bytes.length + (encsT t.kids).length := rfl
 have hct : t.sz < 101 ∧ t.sz ≤ 100 := ⟨by omega, hbig⟩
 refine ec (rs := [.tmp 4]) (n := 64) Tryz.func189 rfl rfl rfl ?_
 refine rg ΦTE_ok [0, 1] trivial ?_
 refine rd ΦTE_ok 12 [0, 1, 5] (first_ok h0) ?_
 refine rg ΦTE_ok [0, 1, 5, 21] trivial ?_
 refine cn ?_ ?_
 ·intro h; try exact na h
  all_goals
   have hc : t.cons = true := h
   refine rgL ΦTE_ok (first_ok h0) ?_
   refine rqB (n := 3) ΦTE_ok [0, 1, 45] trivial fun L hL => ?_
   repeat' first | refine lfC hL trivial fun K' hK => ?_ | with_reducible apply And.intro | exact sd | exact sde trivial | exact sdp trivial | refine stk trivial ?_ | fail
   refine step (b := [tagB t.cls t.tag true]) (out := out) (hcl.push rfl (by simp)) (by simp only [List.length_append, List.length_cons, List.length_nil]; omega) ?_
   refine rt (And.intro Int.toNat_natCast hct) ?_
   repeat' first | with_reducible apply And.intro | exact sd | exact sde trivial | exact sdp trivial | refine stk trivial ?_ | fail
   refine step (b := lenB (conN t)) (out := out ++ [tagB t.cls t.tag true]) (hcl.push rfl (by simp)) (by simp only [List.length_append, List.length_cons, List.length_nil]; omega) ?_
   refine rt (And.intro Int.toNat_natCast hct) ?_
   repeat' first | with_reducible apply And.intro | exact sd | exact sde trivial | exact sdp trivial | refine stk trivial ?_ | fail
   refine step (b := t.bytes) (out := (out ++ [tagB t.cls t.tag true]) ++ lenB (conN t)) (hcl.push rfl (by simp)) (by simp only [List.length_append, List.length_cons, List.length_nil]; omega) ?_
   refine rt (And.intro Int.toNat_natCast hct) ?_
   repeat' first | (refine lf hK trivial ?_; clear hK K') | with_reducible apply And.intro | exact sd | exact sde trivial | exact sdp trivial | refine stk trivial ?_ | fail
   all_goals
    refine cn ?_ ?_
    ·intro h; try exact na h
     all_goals
      refine rg ΦTE_ok [4] trivial ?_
      refine nx ?_
      refine rt trivial ?_
      rw [hAll]
      exact hK0
    ·intro h; try exact na h
     all_goals
      refine rg ΦTE_ok [0, 1, 50, 51] trivial ?_
      obtain ⟨o1, ho1⟩ : ∃ o1, o1 = ((out ++ [tagB t.cls t.tag true]) ++ lenB (conN t)) ++ t.bytes := ⟨_, rfl⟩
      have ho2 : o1.length = out.length + 1 + (lenB (conN t)).length + t.bytes.length := by rw [ho1]; simp only [List.length_append, List.length_cons, List.length_nil]
      rw [← ho1]
      refine nx ?_
      refine VC.loop (ι := Nat) (fun i => ⟨⟨64, [(0, .dat (.ptr [.int .i64 t.cls, .int .i64 t.tag, .bool t.cons, .lst (bytesD t.bytes), .lst (nodesD t.kids)])), (1, .yld 21), (50, .dat (.int .i64 (t.kids.length : Int))), (51, .dat (.int .i64 (i : Int)))], []⟩, c :: stk, H (o1 ++ encsT (t.kids.take i))⟩) (fun i => i ≤ t.kids.length) (fun i => t.kids.length - i) 0 (Nat.zero_le _) ?_ ?_
      ·refine Ent.into ?_ rfl rfl rfl (by show H o1 = _; rw [List.take_zero, encsT_nil, List.append_nil])
       simp -implicitDefEqProofs only [go_sem]; (try simp only [D.dat.injEq, Vm.Data.int.injEq, true_and, and_true, and_self, eq_self]); (try omega); (try ((repeat' apply And.intro) <;> first | omega | rfl))
      intro i hp
      refine rg ΦTE_ok [0, 1, 50, 51, 52] trivial ?_
      refine cn ?_ ?_
      ·intro h; try exact na h
       all_goals
        refine rg ΦTE_ok [0, 1, 6, 50, 51] trivial ?_
        have hi : i < t.kids.length := by omega
        have hna := nodesD_at hi
        have hmem := enc_mem hi
        refine rB ΦTE_ok [0, 1, 50, 51, 62] (nodesD_at hi) fun K' hK => ?_
        repeat' first | with_reducible apply And.intro | exact sd | exact sde (nodesD_at hi) | exact sdp (nodesD_at hi) | refine stk (nodesD_at hi) ?_ | fail
        refine ih (t.kids.getD i T.zero).sz (Nat.lt_of_lt_of_le (T.kid_sz (kid_mem' hi)) hn) (t.kids.getD i T.zero) (Nat.le_refl _) (Nat.le_trans (Nat.le_of_lt (T.kid_sz (kid_mem' hi))) hbig) (kid_good hg hi) _ _ (o1 ++ encsT (t.kids.take i)) _ (hcl.push rfl (by simp)) (by rw [List.length_append, List.length_append, ho2]; omega) ?_
        refine rt trivial ?_
        repeat' first | (refine lf hK (nodesD_at hi) ?_; clear hK K') | with_reducible apply And.intro | exact sd | exact sde (nodesD_at hi) | exact sdp (nodesD_at hi) | refine stk (nodesD_at hi) ?_ | fail
        all_goals
         refine cn ?_ ?_
         ·intro h; try exact na h
          all_goals
           refine rg ΦTE_ok [4] trivial ?_
           refine nx ?_
           refine rt trivial ?_
           rw [hAll]
           exact hK0
         ·intro h; try exact na h
          all_goals
           refine rgL ΦTE_ok trivial ?_
           refine nx ?_
           refine ⟨i + 1, (by omega), Ent.into ?_ rfl rfl rfl (by show H (o1 ++ encsT (t.kids.take i) ++ encT (t.kids.getD i T.zero)) = _; rw [encsT_next hi, List.append_assoc]), by omega⟩
           simp -implicitDefEqProofs only [go_sem]; (try simp (disch := omega) only [i64_in, tmodn, tdivn]); (try simp only [D.dat.injEq, Vm.Data.int.injEq, true_and, and_true, and_self, eq_self]); (try omega); (try ((repeat' apply And.intro) <;> first | omega | rfl))
      ·intro h; try exact na h
       all_goals
        have hAll : o1 ++ encsT (t.kids.take i) = out ++ encT t := by
         have : i = t.kids.length := by omega
         rw [this, List.take_length, ho1, encT_eq, hc]; simp
        refine rg ΦTE_ok [4] trivial ?_
        refine nx ?_
        refine rt trivial ?_
        rw [hAll]
        exact hK0
 ·intro h; try exact na h
  have hc : t.cons = false := by simpa using h
  all_goals
   refine rqB (n := 3) ΦTE_ok [0, 1, 45] trivial fun L hL => ?_
   repeat' first | refine lfC hL trivial fun K' hK => ?_ | with_reducible apply And.intro | exact sd | exact sde trivial | exact sdp trivial | refine stk trivial ?_ | fail
   refine step (b := [tagB t.cls t.tag false]) (out := out) (hcl.push rfl (by simp)) (by simp only [List.length_append, List.length_cons, List.length_nil]; omega) ?_
   refine rt (And.intro Int.toNat_natCast hct) ?_
   repeat' first | with_reducible apply And.intro | exact sd | exact sde trivial | exact sdp trivial | refine stk trivial ?_ | fail
   refine step (b := lenB (conN t)) (out := out ++ [tagB t.cls t.tag false]) (hcl.push rfl (by simp)) (by simp only [List.length_append, List.length_cons, List.length_nil]; omega) ?_
   refine rt (And.intro Int.toNat_natCast hct) ?_
   repeat' first | with_reducible apply And.intro | exact sd | exact sde trivial | exact sdp trivial | refine stk trivial ?_ | fail
   refine step (b := t.bytes) (out := (out ++ [tagB t.cls t.tag false]) ++ lenB (conN t)) (hcl.push rfl (by simp)) (by simp only [List.length_append, List.length_cons, List.length_nil]; omega) ?_
   refine rt (And.intro Int.toNat_natCast hct) ?_
   repeat' first | (refine lf hK trivial ?_; clear hK K') | with_reducible apply And.intro | exact sd | exact sde trivial | exact sdp trivial | refine stk trivial ?_ | fail
   all_goals
    refine cn ?_ ?_
    ·intro h; try exact na h
     all_goals
      refine rg ΦTE_ok [4] trivial ?_
      refine nx ?_
      refine rt trivial ?_
      rw [hAll]
      exact hK0
    ·intro h; try exact na h
     all_goals
      refine rg ΦTE_ok [0, 1, 50, 51] trivial ?_
      obtain ⟨o1, ho1⟩ : ∃ o1, o1 = ((out ++ [tagB t.cls t.tag false]) ++ lenB (conN t)) ++ t.bytes := ⟨_, rfl⟩
      have ho2 : o1.length = out.length + 1 + (lenB (conN t)).length + t.bytes.length := by rw [ho1]; simp only [List.length_append, List.length_cons, List.length_nil]
      rw [← ho1]
      refine nx ?_
      refine VC.loop (ι := Nat) (fun i => ⟨⟨64, [(0, .dat (.ptr [.int .i64 t.cls, .int .i64 t.tag, .bool t.cons, .lst (bytesD t.bytes), .lst (nodesD t.kids)])), (1, .yld 21), (50, .dat (.int .i64 (t.kids.length : Int))), (51, .dat (.int .i64 (i : Int)))], []⟩, c :: stk, H (o1 ++ encsT (t.kids.take i))⟩) (fun i => i ≤ t.kids.length) (fun i => t.kids.length - i) 0 (Nat.zero_le _) ?_ ?_
      ·refine Ent.into ?_ rfl rfl rfl (by show H o1 = _; rw [List.take_zero, encsT_nil, List.append_nil])
       simp -implicitDefEqProofs only [go_sem]; (try simp only [D.dat.injEq, Vm.Data.int.injEq, true_and, and_true, and_self, eq_self]); (try omega); (try ((repeat' apply And.intro) <;> first | omega | rfl))
      intro i hp
      refine rg ΦTE_ok [0, 1, 50, 51, 52] trivial ?_
      refine cn ?_ ?_
      ·intro h; try exact na h
       all_goals
        refine rg ΦTE_ok [0, 1, 6, 50, 51] trivial ?_
        have hi : i < t.kids.length := by omega
        have hna := nodesD_at hi
        have hmem := enc_mem hi
        refine rB ΦTE_ok [0, 1, 50, 51, 62] (nodesD_at hi) fun K' hK => ?_
        repeat' first | with_reducible apply And.intro | exact sd | exact sde (nodesD_at hi) | exact sdp (nodesD_at hi) | refine stk (nodesD_at hi) ?_ | fail
        refine ih (t.kids.getD i T.zero).sz (Nat.lt_of_lt_of_le (T.kid_sz (kid_mem' hi)) hn) (t.kids.getD i T.zero) (Nat.le_refl _) (Nat.le_trans (Nat.le_of_lt (T.kid_sz (kid_mem' hi))) hbig) (kid_good hg hi) _ _ (o1 ++ encsT (t.kids.take i)) _ (hcl.push rfl (by simp)) (by rw [List.length_append, List.length_append, ho2]; omega) ?_
        refine rt trivial ?_
        repeat' first | (refine lf hK (nodesD_at hi) ?_; clear hK K') | with_reducible apply And.intro | exact sd | exact sde (nodesD_at hi) | exact sdp (nodesD_at hi) | refine stk (nodesD_at hi) ?_ | fail
        all_goals
         refine cn ?_ ?_
         ·intro h; try exact na h
          all_goals
           refine rg ΦTE_ok [4] trivial ?_
           refine nx ?_
           refine rt trivial ?_
           rw [hAll]
           exact hK0
         ·intro h; try exact na h
          all_goals
           refine rgL ΦTE_ok trivial ?_
           refine nx ?_
           refine ⟨i + 1, (by omega), Ent.into ?_ rfl rfl rfl (by show H (o1 ++ encsT (t.kids.take i) ++ encT (t.kids.getD i T.zero)) = _; rw [encsT_next hi, List.append_assoc]), by omega⟩
           simp -implicitDefEqProofs only [go_sem]; (try simp (disch := omega) only [i64_in, tmodn, tdivn]); (try simp only [D.dat.injEq, Vm.Data.int.injEq, true_and, and_true, and_self, eq_self]); (try omega); (try ((repeat' apply And.intro) <;> first | omega | rfl))
      ·intro h; try exact na h
       all_goals
        have hAll : o1 ++ encsT (t.kids.take i) = out ++ encT t := by
         have : i = t.kids.length := by omega
         rw [this, List.take_length, ho1, encT_eq, hc]; simp
        refine rg ΦTE_ok [4] trivial ?_
        refine nx ?_
        refine rt trivial ?_
        rw [hAll]
        exact hK0
end Go.Proofs.YtpajpkbipagjpaaGreatDoor.Oc
namespace Go.Proofs.YtpajpkbipagjpaaGreatDoor.Oc
open Go Go.RowKit Go.Proofs.YtpajpkbipagjpaaGreatDoor.Vm Go.Proofs.YtpajpkbipagjpaaGreatDoor.Tr Go.IntWalk
set_option maxRecDepth 100000
set_option maxHeartbeats 4000000
noncomputable def ΦTF : Fns := tab [(183, gcon0F), (184, lenF)]
theorem ΦTF_ok : Sound E ΦTF := sound_cons (by kernel_rfl) gcon0_ok (sound_cons (by kernel_rfl) len_ok (sound_nil))
@[go_sem] theorem ΦTF_r : ΦTF 183 = some gcon0F ∧ ΦTF 184 = some lenF ∧ ΦTF 189 = none := ⟨rfl, rfl, rfl⟩
theorem tell2_ok {H : List UInt8 → List (Nat × Blk)} {LIM : Nat}
 (step : ∀ {b out : List UInt8} {c : Fr} {stk : List Fr} {K : D → St → Prop}, Cln 3 c stk → (out ++ b).length ≤ LIM → K (.dat (.bool true)) ⟨c, stk, H (out ++ b)⟩ → VCyield E 21 [.dat (.lst (bytesD b))] ⟨c, stk, H out⟩ K) :
 ∀ (n : Nat) (t : T), t.sz ≤ n → t.sz ≤ 16000000 → conN t ≤ 65537 → (∀ x ∈ t.all, okN x) → ∀ (c : Fr) (stk : List Fr) (out : List UInt8) (K : D → St → Prop), Cln 3 c stk → (out ++ encT t).length ≤ LIM → K (.dat (.bool true)) ⟨c, stk, H (out ++ encT t)⟩ →
  VCcall E 189 [.dat (.ptr [.int .i64 t.cls, .int .i64 t.tag, .bool t.cons, .lst (bytesD t.bytes), .lst (nodesD t.kids)]), .yld 21] ⟨c, stk, H out⟩ K := by
 intro n
 induction n using Nat.strongRecOn with
 | _ n ih =>
 intro t hn hbig hcn0 hg c stk out K hcl hlim hK0
 have hkl := kids_len t
 have h0 := hg t (by rw [T.all_eq]; exact List.mem_cons_self)
 have hdl := enc_le (t := t) (by omega)
 have hcp : capN (conN t) = conN t := if_neg (by omega)
 have hLm : out.length + (1 + (lenB (conN t)).length + conN t) ≤ LIM := by have := hlim; rw [List.length_append, encT_len] at this; exact this
 have hcn : conN t = t.bytes.length + (encsT t.kids).length := rfl
 have hct : t.sz < 16000001 ∧ t.sz ≤ 16000000 := ⟨by omega, hbig⟩
 refine ec (rs := [.tmp 4]) (n := 64) Tryz.func189 rfl rfl rfl ?_
 refine rg ΦTF_ok [0, 1] trivial ?_
 refine rd ΦTF_ok 12 [0, 1, 5] (first_ok h0) ?_
 refine rg ΦTF_ok [0, 1, 5, 21] trivial ?_
 refine cn ?_ ?_
 ·intro h; try exact na h
  all_goals
   have hc : t.cons = true := h
   refine rgL ΦTF_ok (first_ok h0) ?_
   refine rqB (n := 3) ΦTF_ok [0, 1, 45] hcp fun L hL => ?_
   repeat' first | refine lfC hL hcp fun K' hK => ?_ | with_reducible apply And.intro | exact sd | exact sde hcp | exact sdp hcp | refine stk hcp ?_ | fail
   refine step (b := [tagB t.cls t.tag true]) (out := out) (hcl.push rfl (by simp)) (by simp only [List.length_append, List.length_cons, List.length_nil]; omega) ?_
   refine rt (And.intro hcp (And.intro Int.toNat_natCast hct)) ?_
   repeat' first | with_reducible apply And.intro | exact sd | exact sde hcp | exact sdp hcp | refine stk hcp ?_ | fail
   refine step (b := lenB (conN t)) (out := out ++ [tagB t.cls t.tag true]) (hcl.push rfl (by simp)) (by simp only [List.length_append, List.length_cons, List.length_nil]; omega) ?_
   refine rt (And.intro hcp (And.intro Int.toNat_natCast hct)) ?_
   repeat' first | with_reducible apply And.intro | exact sd | exact sde hcp | exact sdp hcp | refine stk hcp ?_ | fail
   refine step (b := t.bytes) (out := (out ++ [tagB t.cls t.tag true]) ++ lenB (conN t)) (hcl.push rfl (by simp)) (by simp only [List.length_append, List.length_cons, List.length_nil]; omega) ?_
   refine rt (And.intro hcp (And.intro Int.toNat_natCast hct)) ?_
   repeat' first | (refine lf hK hcp ?_; clear hK K') | with_reducible apply And.intro | exact sd | exact sde hcp | exact sdp hcp | refine stk hcp ?_ | fail
   all_goals
    refine cn ?_ ?_
    ·intro h; try exact na h
     all_goals
      refine rg ΦTF_ok [4] trivial ?_
      refine nx ?_
      refine rt trivial ?_
      rw [hAll]
      exact hK0
    ·intro h; try exact na h
     all_goals
      refine rg ΦTF_ok [0, 1, 50, 51] trivial ?_
      obtain ⟨o1, ho1⟩ : ∃ o1, o1 = ((out ++ [tagB t.cls t.tag true]) ++ lenB (conN t)) ++ t.bytes := ⟨_, rfl⟩
      have ho2 : o1.length = out.length + 1 + (lenB (conN t)).length + t.bytes.length := by rw [ho1]; simp only [List.length_append, List.length_cons, List.length_nil]
      rw [← ho1]
      refine nx ?_
      refine VC.loop (ι := Nat) (fun i => ⟨⟨64, [(0, .dat (.ptr [.int .i64 t.cls, .int .i64 t.tag, .bool t.cons, .lst (bytesD t.bytes), .lst (nodesD t.kids)])), (1, .yld 21), (50, .dat (.int .i64 (t.kids.length : Int))), (51, .dat (.int .i64 (i : Int)))], []⟩, c :: stk, H (o1 ++ encsT (t.kids.take i))⟩) (fun i => i ≤ t.kids.length) (fun i => t.kids.length - i) 0 (Nat.zero_le _) ?_ ?_
      ·refine Ent.into ?_ rfl rfl rfl (by show H o1 = _; rw [List.take_zero, encsT_nil, List.append_nil])
       simp -implicitDefEqProofs only [go_sem]; (try simp only [D.dat.injEq, Vm.Data.int.injEq, true_and, and_true, and_self, eq_self]); (try omega); (try ((repeat' apply And.intro) <;> first | omega | rfl))
      intro i hp
      refine rg ΦTF_ok [0, 1, 50, 51, 52] trivial ?_
      refine cn ?_ ?_
      ·intro h; try exact na h
       all_goals
        refine rg ΦTF_ok [0, 1, 6, 50, 51] trivial ?_
        have hi : i < t.kids.length := by omega
        have hna := nodesD_at hi
        have hmem := enc_mem hi
        refine rB ΦTF_ok [0, 1, 50, 51, 62] (nodesD_at hi) fun K' hK => ?_
        repeat' first | with_reducible apply And.intro | exact sd | exact sde (nodesD_at hi) | exact sdp (nodesD_at hi) | refine stk (nodesD_at hi) ?_ | fail
        refine ih (t.kids.getD i T.zero).sz (Nat.lt_of_lt_of_le (T.kid_sz (kid_mem' hi)) hn) (t.kids.getD i T.zero) (Nat.le_refl _) (Nat.le_trans (Nat.le_of_lt (T.kid_sz (kid_mem' hi))) hbig) (by have := encT_len (t.kids.getD i T.zero); omega) (kid_good hg hi) _ _ (o1 ++ encsT (t.kids.take i)) _ (hcl.push rfl (by simp)) (by rw [List.length_append, List.length_append, ho2]; omega) ?_
        refine rt trivial ?_
        repeat' first | (refine lf hK (nodesD_at hi) ?_; clear hK K') | with_reducible apply And.intro | exact sd | exact sde (nodesD_at hi) | exact sdp (nodesD_at hi) | refine stk (nodesD_at hi) ?_ | fail
        all_goals
         refine cn ?_ ?_
         ·intro h; try exact na h
          all_goals
           refine rg ΦTF_ok [4] trivial ?_
           refine nx ?_
           refine rt trivial ?_
           rw [hAll]
           exact hK0
         ·intro h; try exact na h
          all_goals
           refine rgL ΦTF_ok trivial ?_
           refine nx ?_
           refine ⟨i + 1, (by omega), Ent.into ?_ rfl rfl rfl (by show H (o1 ++ encsT (t.kids.take i) ++ encT (t.kids.getD i T.zero)) = _; rw [encsT_next hi, List.append_assoc]), by omega⟩
           simp -implicitDefEqProofs only [go_sem]; (try simp (disch := omega) only [i64_in, tmodn, tdivn]); (try simp only [D.dat.injEq, Vm.Data.int.injEq, true_and, and_true, and_self, eq_self]); (try omega); (try ((repeat' apply And.intro) <;> first | omega | rfl))
      ·intro h; try exact na h
       all_goals
        have hAll : o1 ++ encsT (t.kids.take i) = out ++ encT t := by
         have : i = t.kids.length := by omega
         rw [this, List.take_length, ho1, encT_eq, hc]; simp
        refine rg ΦTF_ok [4] trivial ?_
        refine nx ?_
        refine rt trivial ?_
        rw [hAll]
        exact hK0
 ·intro h; try exact na h
  have hc : t.cons = false := by simpa using h
  all_goals
   refine rqB (n := 3) ΦTF_ok [0, 1, 45] hcp fun L hL => ?_
   repeat' first | refine lfC hL hcp fun K' hK => ?_ | with_reducible apply And.intro | exact sd | exact sde hcp | exact sdp hcp | refine stk hcp ?_ | fail
   refine step (b := [tagB t.cls t.tag false]) (out := out) (hcl.push rfl (by simp)) (by simp only [List.length_append, List.length_cons, List.length_nil]; omega) ?_
   refine rt (And.intro hcp (And.intro Int.toNat_natCast hct)) ?_
   repeat' first | with_reducible apply And.intro | exact sd | exact sde hcp | exact sdp hcp | refine stk hcp ?_ | fail
   refine step (b := lenB (conN t)) (out := out ++ [tagB t.cls t.tag false]) (hcl.push rfl (by simp)) (by simp only [List.length_append, List.length_cons, List.length_nil]; omega) ?_
   refine rt (And.intro hcp (And.intro Int.toNat_natCast hct)) ?_
   repeat' first | with_reducible apply And.intro | exact sd | exact sde hcp | exact sdp hcp | refine stk hcp ?_ | fail
   refine step (b := t.bytes) (out := (out ++ [tagB t.cls t.tag false]) ++ lenB (conN t)) (hcl.push rfl (by simp)) (by simp only [List.length_append, List.length_cons, List.length_nil]; omega) ?_
   refine rt (And.intro hcp (And.intro Int.toNat_natCast hct)) ?_
   repeat' first | (refine lf hK hcp ?_; clear hK K') | with_reducible apply And.intro | exact sd | exact sde hcp | exact sdp hcp | refine stk hcp ?_ | fail
   all_goals
    refine cn ?_ ?_
    ·intro h; try exact na h
     all_goals
      refine rg ΦTF_ok [4] trivial ?_
      refine nx ?_
      refine rt trivial ?_
      rw [hAll]
      exact hK0
    ·intro h; try exact na h
     all_goals
      refine rg ΦTF_ok [0, 1, 50, 51] trivial ?_
      obtain ⟨o1, ho1⟩ : ∃ o1, o1 = ((out ++ [tagB t.cls t.tag false]) ++ lenB (conN t)) ++ t.bytes := ⟨_, rfl⟩
      have ho2 : o1.length = out.length + 1 + (lenB (conN t)).length + t.bytes.length := by rw [ho1]; simp only [List.length_append, List.length_cons, List.length_nil]
      rw [← ho1]
      refine nx ?_
      refine VC.loop (ι := Nat) (fun i => ⟨⟨64, [(0, .dat (.ptr [.int .i64 t.cls, .int .i64 t.tag, .bool t.cons, .lst (bytesD t.bytes), .lst (nodesD t.kids)])), (1, .yld 21), (50, .dat (.int .i64 (t.kids.length : Int))), (51, .dat (.int .i64 (i : Int)))], []⟩, c :: stk, H (o1 ++ encsT (t.kids.take i))⟩) (fun i => i ≤ t.kids.length) (fun i => t.kids.length - i) 0 (Nat.zero_le _) ?_ ?_
      ·refine Ent.into ?_ rfl rfl rfl (by show H o1 = _; rw [List.take_zero, encsT_nil, List.append_nil])
       simp -implicitDefEqProofs only [go_sem]; (try simp only [D.dat.injEq, Vm.Data.int.injEq, true_and, and_true, and_self, eq_self]); (try omega); (try ((repeat' apply And.intro) <;> first | omega | rfl))
      intro i hp
      refine rg ΦTF_ok [0, 1, 50, 51, 52] trivial ?_
      refine cn ?_ ?_
      ·intro h; try exact na h
       all_goals
        refine rg ΦTF_ok [0, 1, 6, 50, 51] trivial ?_
        have hi : i < t.kids.length := by omega
        have hna := nodesD_at hi
        have hmem := enc_mem hi
        refine rB ΦTF_ok [0, 1, 50, 51, 62] (nodesD_at hi) fun K' hK => ?_
        repeat' first | with_reducible apply And.intro | exact sd | exact sde (nodesD_at hi) | exact sdp (nodesD_at hi) | refine stk (nodesD_at hi) ?_ | fail
        refine ih (t.kids.getD i T.zero).sz (Nat.lt_of_lt_of_le (T.kid_sz (kid_mem' hi)) hn) (t.kids.getD i T.zero) (Nat.le_refl _) (Nat.le_trans (Nat.le_of_lt (T.kid_sz (kid_mem' hi))) hbig) (by have := encT_len (t.kids.getD i T.zero); omega) (kid_good hg hi) _ _ (o1 ++ encsT (t.kids.take i)) _ (hcl.push rfl (by simp)) (by rw [List.length_append, List.length_append, ho2]; omega) ?_
        refine rt trivial ?_
        repeat' first | (refine lf hK (nodesD_at hi) ?_; clear hK K') | with_reducible apply And.intro | exact sd | exact sde (nodesD_at hi) | exact sdp (nodesD_at hi) | refine stk (nodesD_at hi) ?_ | fail
        all_goals
         refine cn ?_ ?_
         ·intro h; try exact na h
          all_goals
           refine rg ΦTF_ok [4] trivial ?_
           refine nx ?_
           refine rt trivial ?_
           rw [hAll]
           exact hK0
         ·intro h; try exact na h
          all_goals
           refine rgL ΦTF_ok trivial ?_
           refine nx ?_
           refine ⟨i + 1, (by omega), Ent.into ?_ rfl rfl rfl (by show H (o1 ++ encsT (t.kids.take i) ++ encT (t.kids.getD i T.zero)) = _; rw [encsT_next hi, List.append_assoc]), by omega⟩
           simp -implicitDefEqProofs only [go_sem]; (try simp (disch := omega) only [i64_in, tmodn, tdivn]); (try simp only [D.dat.injEq, Vm.Data.int.injEq, true_and, and_true, and_self, eq_self]); (try omega); (try ((repeat' apply And.intro) <;> first | omega | rfl))
      ·intro h; try exact na h
       all_goals
        have hAll : o1 ++ encsT (t.kids.take i) = out ++ encT t := by
         have : i = t.kids.length := by omega
         rw [this, List.take_length, ho1, encT_eq, hc]; simp
        refine rg ΦTF_ok [4] trivial ?_
        refine nx ?_
        refine rt trivial ?_
        rw [hAll]
        exact hK0
end Go.Proofs.YtpajpkbipagjpaaGreatDoor.Oc

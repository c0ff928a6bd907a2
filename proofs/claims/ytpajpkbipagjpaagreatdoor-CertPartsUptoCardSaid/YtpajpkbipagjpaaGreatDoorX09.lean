/- What functions of the program, of its library and of the document compute: their contracts, and laws about what they compute (X09). No condition. -/
import Derived.Test.YtpajpkbipagjpaaGreatDoorX08
import Derived.Test.YtpajpkbipagjpaaGreatDoorX04
import Derived.Test.YtpajpkbipagjpaaGreatDoorX05
set_option linter.unusedVariables false
set_option linter.unusedSimpArgs false
namespace Go.Proofs.YtpajpkbipagjpaaGreatDoor.Oc
open Go Go.RowKit Go.Proofs.YtpajpkbipagjpaaGreatDoor.Vm Go.Proofs.YtpajpkbipagjpaaGreatDoor.Tr Go.IntWalk
set_option maxRecDepth 100000
set_option maxHeartbeats 4000000
def formR : Nat → Nat → List UInt8 → List UInt8
 | 0, _, out => out
 | f + 1, n, out => if n = 0 then out else formR f (n / 128) (UInt8.ofNat (128 + n % 128) :: out)
def form1 (n : Nat) : List UInt8 := formR 10 (n / 128) [UInt8.ofNat (n % 128)]
def contF (k m : Nat) (out : List UInt8) : List UInt8 := formR (10 - k) m out
theorem contF_step {k m : Nat} {out : List UInt8} (h : k < 10) (h' : 0 < m) : contF (k + 1) (m / 128) (UInt8.ofNat (128 + m % 128) :: out) = contF k m out := by
 unfold contF
 rw [show 10 - k = (10 - (k + 1)) + 1 by omega]
 simp only [formR]; rw [if_neg (by omega)]
theorem contF_stop {k m : Nat} {out : List UInt8} (h : ¬ (k < 10 ∧ 0 < m)) : contF k m out = out := by
 unfold contF
 cases e : 10 - k with
 | zero => rfl
 | succ f => simp only [formR]; rw [if_pos (by omega)]
theorem formS_len (f n : Nat) (s : List UInt8) : (formR f n s).length ≤ f + s.length := by
 induction f generalizing n s with
 | zero => simp [formR]
 | succ f ih =>
   simp only [formR]
   split
   ·omega
   ·have := ih (n / 128) (UInt8.ofNat (128 + n % 128) :: s); simp only [List.length_cons] at this; omega
theorem form1_len (n : Nat) : (form1 n).length ≤ 11 := by have := formS_len 10 (n / 128) [UInt8.ofNat (n % 128)]; simpa [form1] using this
theorem fb1 (n : Nat) : IntKind.u8.wrap ((n : Int) % 128) = ((n % 128 : Nat) : Int) := by rw [IntKind.wrap_u8]; omega
theorem fb2 (n : Nat) : IntKind.u8.wrap (IntKind.u64.wrap (128 + (n : Int) % 128)) = ((128 + n % 128 : Nat) : Int) := by rw [u64_in _ (by omega), IntKind.wrap_u8]; omega
theorem byte_cons (l : List UInt8) (x : Nat) (h : x < 256) : [Vm.Data.int .u8 (x : Int)] :: bytesD l = bytesD (UInt8.ofNat x :: l) := by
 simp only [bytesD, List.map_cons, UInt8.toNat_ofNat', Nat.mod_eq_of_lt h]
theorem byte_cons7 (l : List UInt8) (n : Nat) : [Vm.Data.int .u8 ((n % 128 : Nat) : Int)] :: bytesD l = bytesD (UInt8.ofNat (n % 128) :: l) := byte_cons l _ (by omega)
theorem byte_cons8 (l : List UInt8) (n : Nat) : [Vm.Data.int .u8 ((128 + n % 128 : Nat) : Int)] :: bytesD l = bytesD (UInt8.ofNat (128 + n % 128) :: l) := byte_cons l _ (by omega)
theorem byte_one7 (n : Nat) : [[Vm.Data.int .u8 ((n % 128 : Nat) : Int)]] = bytesD [UInt8.ofNat (n % 128)] := byte_cons7 [] n
theorem fmE : (∀ n : Nat, IntKind.u8.wrap ((n : Int) % 128) = ((n % 128 : Nat) : Int)) ∧ (∀ n : Nat, IntKind.u8.wrap (IntKind.u64.wrap (128 + (n : Int) % 128)) = ((128 + n % 128 : Nat) : Int)) ∧ (∀ n : Nat, IntKind.u8.wrap (128 + (n : Int) % 128) = ((128 + n % 128 : Nat) : Int)) ∧
 (∀ (l : List UInt8) (n : Nat), [Vm.Data.int .u8 ((n % 128 : Nat) : Int)] :: bytesD l = bytesD (UInt8.ofNat (n % 128) :: l)) ∧ (∀ (l : List UInt8) (n : Nat), [Vm.Data.int .u8 ((128 + n % 128 : Nat) : Int)] :: bytesD l = bytesD (UInt8.ofNat (128 + n % 128) :: l)) ∧ (∀ n : Nat, [[Vm.Data.int .u8 ((n % 128 : Nat) : Int)]] = bytesD [UInt8.ofNat (n % 128)]) ∧
 (∀ n : Nat, ((n : Int) / 128) = ((n / 128 : Nat) : Int)) := ⟨fb1, fb2, fun n => by rw [IntKind.wrap_u8]; omega, byte_cons7, byte_cons8, byte_one7, fun _ => rfl⟩
@[go_sem] noncomputable def rformO : OFn := OF [SI .u64] (fun (z : Int) => 0 ≤ z ∧ z ≤ 18446744073709551615) 5 1 (fun (z : Int) => bytesD (form1 z.toNat)) (fun (z : Int) => [])
@[go_sem] noncomputable def rformF : PFn := rformO.shut
theorem rform_own : Own E 203 rformO := Own.of_sig (rs := [.tmp 2]) (n := 29) Tryz.func203 rfl rfl rfl (Nat.le_of_ble_eq_true rfl) (by
 intro (z : Int) hds
 obtain ⟨n, rfl⟩ := Int.eq_ofNat_of_zero_le hds.1
 have hn : n ≤ 18446744073709551615 := by omega
 simp only [Int.ofNat_eq_natCast, Int.toNat_natCast]
 refine st0 ?_
 refine rg sound_nil [0] fmE ?_
 refine rg sound_nil [0, 3] fmE ?_
 refine rg sound_nil [0, 3] fmE ?_
 refine rg sound_nil [0, 3, 4] fmE ?_
 refine nx ?_
 refine VC.loopP (ι := Nat × Nat × List UInt8) [] (fun i => [(4, .dat (.int .i64 (i.1 : Int))), (0, .dat (.int .u64 (i.2.1 : Int))), (3, .sl 1 0 i.2.2.length)]) (fun i => [(1, .arr 5 1 (bytesD i.2.2) 0)]) (fun i => i.1 ≤ 10 ∧ i.2.1 ≤ 18446744073709551615 ∧ i.2.2.length ≤ i.1 + 1 ∧ contF i.1 i.2.1 i.2.2 = form1 n) (fun i => 10 - i.1) (0, n / 128, [UInt8.ofNat (n % 128)]) ⟨Nat.zero_le _, by dsimp only; omega, Nat.le_refl _, rfl⟩ ?_ ?_
 ·refine Ent.to rfl rfl rfl ?_ ?_
  ·simp -implicitDefEqProofs only [go_sem, Nat.reduceLT, Nat.reduceAdd, Nat.reduceEqDiff, reduceIte, Nat.reduceMul, Nat.reduceSub, reduceCtorEq, Int.reduceNe, Int.reduceEq, ne_eq, Nat.reduceLeDiff, Nat.reduceMod, Nat.reduceDiv, fmE]; (try simp only [D.dat.injEq, Vm.Data.int.injEq, true_and, and_true, and_self, eq_self]); (try omega); (try ((repeat' apply And.intro) <;> first | omega | rfl))
  ·(repeat' (first | exact all_nil | (refine all_cons ?_ ?_))) <;> (simp -implicitDefEqProofs only [go_sem, Nat.reduceLT, Nat.reduceAdd, Nat.reduceEqDiff, reduceIte, Nat.reduceMul, Nat.reduceSub, reduceCtorEq, Int.reduceNe, Int.reduceEq, ne_eq, Nat.reduceLeDiff, Nat.reduceMod, Nat.reduceDiv]; (try rfl); (try simp only [fmE]); try rfl)
 rintro ⟨k, m, out⟩ hp; (try dsimp only at hp); obtain ⟨hk, hm, hl, hc⟩ := hp
 refine st0 ?_
 refine rB sound_nil [0, 3, 4, 16] fmE fun K' hK => ?_
 repeat' first | (refine lf hK fmE ?_; clear hK K') | with_reducible apply And.intro | refine sA fmE (fun _ => ?_) fun _ => ?_ | refine sAb fmE (fun _ => ?_) fun _ => ?_ | refine sAl fmE (fun g => ?_) fun g => ?_ | exact sd | exact sde fmE | exact sdp fmE | refine stk fmE ?_ | fail
 all_goals
  refine cn ?_ ?_
  ·intro h; try exact absurd h (by decide)
   all_goals
    refine rg sound_nil [0, 3, 4] fmE ?_
    refine rgL sound_nil fmE ?_
    refine rgL sound_nil fmE ?_
    refine nx ?_
    refine ⟨(k + 1, m / 128, UInt8.ofNat (128 + m % 128) :: out), ⟨by omega, by dsimp only; omega, by simp only [List.length_cons]; omega, ?_⟩, ?_, by dsimp only; omega⟩
    ·dsimp only; rw [contF_step (by omega) (by omega)]; exact hc
    ·refine (Ent.move 3 2 1 (by simp -implicitDefEqProofs only [go_sem, Nat.reduceLT, Nat.reduceAdd, Nat.reduceEqDiff, reduceIte, Nat.reduceMul, Nat.reduceSub, reduceCtorEq, Int.reduceNe, Int.reduceEq, ne_eq, Nat.reduceLeDiff, Nat.reduceMod, Nat.reduceDiv]; try decide) (by simp -implicitDefEqProofs only [go_sem, Nat.reduceLT, Nat.reduceAdd, Nat.reduceEqDiff, reduceIte, Nat.reduceMul, Nat.reduceSub, reduceCtorEq, Int.reduceNe, Int.reduceEq, ne_eq, Nat.reduceLeDiff, Nat.reduceMod, Nat.reduceDiv]; try decide) (by simp -implicitDefEqProofs only [go_sem, Nat.reduceLT, Nat.reduceAdd, Nat.reduceEqDiff, reduceIte, Nat.reduceMul, Nat.reduceSub, reduceCtorEq, Int.reduceNe, Int.reduceEq, ne_eq, Nat.reduceLeDiff, Nat.reduceMod, Nat.reduceDiv]; exact rfl) (by simp -implicitDefEqProofs only [go_sem, Nat.reduceLT, Nat.reduceAdd, Nat.reduceEqDiff, reduceIte, Nat.reduceMul, Nat.reduceSub, reduceCtorEq, Int.reduceNe, Int.reduceEq, ne_eq, Nat.reduceLeDiff, Nat.reduceMod, Nat.reduceDiv]; exact rfl)).trans (Ent.to rfl rfl rfl ?_ ?_)
     ·simp -implicitDefEqProofs only [go_sem, Nat.reduceLT, Nat.reduceAdd, Nat.reduceEqDiff, reduceIte, Nat.reduceMul, Nat.reduceSub, reduceCtorEq, Int.reduceNe, Int.reduceEq, ne_eq, Nat.reduceLeDiff, Nat.reduceMod, Nat.reduceDiv, fmE]; (try simp only [List.length_cons, Nat.add_comm 1]); (try simp only [D.dat.injEq, Vm.Data.int.injEq, true_and, and_true, and_self, eq_self]); (try omega); (try ((repeat' apply And.intro) <;> first | omega | rfl)); (try trace_state)
     ·(repeat' (first | exact all_nil | (refine all_cons ?_ ?_))) <;> (simp -implicitDefEqProofs only [go_sem, Nat.reduceLT, Nat.reduceAdd, Nat.reduceEqDiff, reduceIte, Nat.reduceMul, Nat.reduceSub, reduceCtorEq, Int.reduceNe, Int.reduceEq, ne_eq, Nat.reduceLeDiff, Nat.reduceMod, Nat.reduceDiv]; (try rfl); (try simp only [fmE]); try rfl; try trace_state)
  ·intro h; try exact absurd h (by decide)
   all_goals
    have hy := (contF_stop (k := k) (m := m) (out := out) (by omega)).symm.trans hc
    refine rg sound_nil [2] fmE ?_
    exact fz hy)
theorem rform_ok : Pure E 203 rformF := rform_own.pure
end Go.Proofs.YtpajpkbipagjpaaGreatDoor.Oc
namespace Go.Proofs.YtpajpkbipagjpaaGreatDoor.Oc
open Go Go.RowKit Go.Proofs.YtpajpkbipagjpaaGreatDoor.Vm Go.Proofs.YtpajpkbipagjpaaGreatDoor.Tr Go.IntWalk
set_option maxRecDepth 100000
set_option maxHeartbeats 4000000
noncomputable def ΦRB : Fns := tab [(202, rmayF)]
theorem ΦRB_ok : Sound E ΦRB := sound_cons (by kernel_rfl) rmay_ok (sound_nil)
@[go_sem] theorem ΦRB_r : ΦRB 202 = some rmayF ∧ ΦRB 203 = none := ⟨rfl, rfl⟩
@[go_sem] theorem ΦRB_c : callable Tryz.prog 203 = true := by kernel_rfl
noncomputable def ΦRC : Fns := tab [(202, rmayF), (203, rformF)]
theorem ΦRC_ok : Sound E ΦRC := sound_cons (by kernel_rfl) rmay_ok (sound_cons (by kernel_rfl) rform_ok (sound_nil))
@[go_sem] theorem ΦRC_r : ΦRC 202 = some rmayF ∧ ΦRC 203 = some rformF := ⟨rfl, rfl⟩
def rnum (l : List Nat) (k : Nat) : Nat := if k = 1 then 40 * l.getD 0 0 + l.getD 1 0 else l.getD k 0
def rencN (l : List Nat) (k : Nat) : List UInt8 := (List.range (k - 1)).flatMap fun i => form1 (rnum l (i + 1))
def renc (l : List Nat) : List UInt8 := rencN l l.length
theorem rencN_succ (l : List Nat) (k : Nat) (h : 1 ≤ k) : rencN l (k + 1) = rencN l k ++ form1 (rnum l k) := by
 unfold rencN
 rw [show k + 1 - 1 = (k - 1) + 1 by omega, List.range_succ, List.flatMap_append]
 simp [show k - 1 + 1 = k by omega]
theorem rencN_two (l : List Nat) : rencN l 2 = form1 (40 * l.getD 0 0 + l.getD 1 0) := by simp [rencN, rnum]
theorem rnum_pos (l : List Nat) (k : Nat) (h : 2 ≤ k) : rnum l k = l.getD k 0 := if_neg (by omega)
theorem rencN_len (l : List Nat) (k : Nat) : (rencN l k).length ≤ 11 * k := by
 induction k with
 | zero => simp [rencN]
 | succ k ih =>
   rcases Nat.eq_zero_or_pos k with rfl | h
   ·simp [rencN]
   ·rw [rencN_succ l k h, List.length_append]; have := form1_len (rnum l k); omega
def rencO (l : List Nat) : List UInt8 := if may l then renc l else []
theorem rencO_yes {l : List Nat} (h : may l = true) : rencO l = renc l := if_pos h
theorem rencO_no {l : List Nat} (h : may l = false) : rencO l = [] := by unfold rencO; rw [h]; rfl
theorem arg1 (a b : Nat) : (40 * (a : Int) + (b : Int)).toNat = 40 * a + b := by omega
@[go_sem] noncomputable def rbytesO : OFn := OF [SN] (fun (l : List Nat) => l.length ≤ 100000) 5 1 (fun (l : List Nat) => bytesD (rencO l)) (fun (l : List Nat) => [.int .i64 (if may l then 0 else 140)])
@[go_sem] noncomputable def rbytesF : PFn := rbytesO.shut
theorem rbytes_own : Own E 154 rbytesO := Own.of_sig (rs := [.tmp 2, .tmp 3]) (n := 34) Tryz.func154 rfl rfl rfl (Nat.le_of_ble_eq_true rfl) (by
 intro (l : List Nat) hds
 refine st0 ?_
 refine rg ΦRB_ok [0] trivial ?_
 refine rg ΦRB_ok [0, 4] trivial ?_
 refine rg ΦRB_ok [0, 10] trivial ?_
 refine cn ?_ ?_
 ·intro h; try exact absurd h (by decide)
  all_goals
   have hm : may l = false := by simp_all
   have hy := And.intro hm (rencO_no hm)
   refine rg ΦRB_ok [2, 3] trivial ?_
   exact fz hy
 ·intro h; try exact absurd h (by decide)
  all_goals
   have hm : may l = true := by simp_all
   have hml := of_decide_eq_true hm
   have hg0 := mx_ge l 0 (by omega)
   have hg1 := mx_ge l 1 (by omega)
   have hfl := form1_len (40 * l.getD 0 0 + l.getD 1 0)
   refine rdB (n := 8) ΦRB_ok [0, 5] trivial fun L hL => ?_
   repeat' first | refine lfC hL trivial fun K' hK => ?_ | with_reducible apply And.intro | exact sd | exact sde trivial | exact sdp trivial | refine stk trivial ?_ | fail
   repeat' first | with_reducible apply And.intro | exact sd | exact sde trivial | exact sdp trivial | refine stk trivial ?_ | fail
   refine oc rform_own 1 trivial ?_
   repeat' first | (refine lf hK trivial ?_; clear hK K') | with_reducible apply And.intro | exact sd | exact sde trivial | exact sdp trivial | refine stk trivial ?_ | fail
   refine rg ΦRB_ok [0, 5, 6] trivial ?_
   refine nx ?_
   refine VC.loopP (ι := Nat) [0] (fun k => [(6, .dat (.int .i64 (k : Int))), (5, .sl 1 0 (rencN l k).length)]) (fun k => [(1, .arr 5 1 (bytesD (rencN l k)) 0)]) (fun k => 2 ≤ k ∧ k ≤ l.length) (fun k => l.length - k) 2 ⟨Nat.le_refl _, by omega⟩ ?_ ?_
   ·refine Ent.to rfl rfl rfl ?_ ?_
    ·simp -implicitDefEqProofs only [go_sem, Nat.reduceLT, Nat.reduceAdd, Nat.reduceEqDiff, reduceIte, Nat.reduceMul, Nat.reduceSub, reduceCtorEq, Int.reduceNe, Int.reduceEq, ne_eq, Nat.reduceLeDiff, Nat.reduceMod, Nat.reduceDiv, arg1, rencN_two]; (try simp only [D.dat.injEq, Vm.Data.int.injEq, true_and, and_true, and_self, eq_self]); (try omega); (try ((repeat' apply And.intro) <;> first | omega | rfl))
    ·(repeat' (first | exact all_nil | (refine all_cons ?_ ?_))) <;> (simp -implicitDefEqProofs only [go_sem, Nat.reduceLT, Nat.reduceAdd, Nat.reduceEqDiff, reduceIte, Nat.reduceMul, Nat.reduceSub, reduceCtorEq, Int.reduceNe, Int.reduceEq, ne_eq, Nat.reduceLeDiff, Nat.reduceMod, Nat.reduceDiv]; (try rfl); (try simp only [arg1, rencN_two]); try rfl)
   intro k hp; (try dsimp only at hp); obtain ⟨h2, hk⟩ := hp; have hrl := rencN_len l k; have hfl := form1_len (l.getD k 0)
   refine st0 ?_
   refine rg ΦRB_ok [0, 5, 6, 23] trivial ?_
   refine cn ?_ ?_
   ·intro h; try exact absurd h (by decide)
    all_goals
     have hgk := Nat.le_trans (mx_ge l k (by omega)) hml.2.2.2.2.1
     refine rgL ΦRC_ok trivial ?_
     refine rgL ΦRB_ok trivial ?_
     refine nx ?_
     refine ⟨k + 1, ⟨by omega, by omega⟩, ?_, by omega⟩
     refine Ent.to rfl rfl rfl ?_ ?_
     ·simp -implicitDefEqProofs only [go_sem, Nat.reduceLT, Nat.reduceAdd, Nat.reduceEqDiff, reduceIte, Nat.reduceMul, Nat.reduceSub, reduceCtorEq, Int.reduceNe, Int.reduceEq, ne_eq, Nat.reduceLeDiff, Nat.reduceMod, Nat.reduceDiv]; (try simp only [rencN_succ l k (by omega), rnum_pos l k h2, List.length_append, bytesD_len, List.take_of_length_le, Nat.le_refl, Int.toNat_natCast]); (try simp only [D.dat.injEq, Vm.Data.int.injEq, true_and, and_true, and_self, eq_self]); (try omega); (try ((repeat' apply And.intro) <;> first | omega | rfl))
     ·(repeat' (first | exact all_nil | (refine all_cons ?_ ?_))) <;> (simp -implicitDefEqProofs only [go_sem, Nat.reduceLT, Nat.reduceAdd, Nat.reduceEqDiff, reduceIte, Nat.reduceMul, Nat.reduceSub, reduceCtorEq, Int.reduceNe, Int.reduceEq, ne_eq, Nat.reduceLeDiff, Nat.reduceMod, Nat.reduceDiv]; (try rfl); (try simp only [rencN_succ l k (by omega), rnum_pos l k h2, bytesD_append, List.take_of_length_le, bytesD_len, Nat.le_refl, Int.toNat_natCast]); try rfl)
   ·intro h; try exact absurd h (by decide)
    all_goals
     obtain rfl : k = l.length := by omega
     have hy := And.intro hm (show rencO l = rencN l l.length from rencO_yes hm)
     refine rg ΦRB_ok [2, 3] trivial ?_
     exact fz hy)
theorem rbytes_ok : Pure E 154 rbytesF := rbytes_own.pure
end Go.Proofs.YtpajpkbipagjpaaGreatDoor.Oc
namespace Go.Proofs.YtpajpkbipagjpaaGreatDoor.Oc
open Go Go.RowKit Go.Proofs.YtpajpkbipagjpaaGreatDoor.Vm Go.Proofs.YtpajpkbipagjpaaGreatDoor.Tr Go.IntWalk
set_option maxRecDepth 100000
set_option maxHeartbeats 4000000
def valS (s : List UInt8) (k : Nat) : Nat := (s.take k).foldl (fun n c => 10 * n + (c.toNat - 48)) 0
def digOk (c : UInt8) : Bool := decide (48 ≤ c.toNat ∧ c.toNat ≤ 57)
def wordOk (s : List UInt8) : Bool := decide (0 < s.length ∧ s.length ≤ 19 ∧ ¬ (1 < s.length ∧ (s.getD 0 0).toNat = 48)) && s.all digOk
theorem valS_zero (s : List UInt8) : valS s 0 = 0 := rfl
theorem valS_succ (s : List UInt8) (k : Nat) (h : k < s.length) : valS s (k + 1) = 10 * valS s k + ((s.getD k 0).toNat - 48) := by
 unfold valS
 rw [List.take_add_one, List.getElem?_eq_getElem h, Option.toList_some, List.foldl_append, List.getD_eq_getElem?_getD, List.getElem?_eq_getElem h]
 rfl
theorem word_no1 (s : List UInt8) (h : ¬ (0 < s.length ∧ s.length ≤ 19 ∧ ¬ (1 < s.length ∧ (s.getD 0 0).toNat = 48))) : wordOk s = false := by
 unfold wordOk; rw [decide_eq_false h]; rfl
theorem word_no2 (s : List UInt8) (k : Nat) (hk : k < s.length) (h : ¬ (48 ≤ (s.getD k 0).toNat ∧ (s.getD k 0).toNat ≤ 57)) : wordOk s = false := by
 unfold wordOk
 rw [Bool.and_eq_false_iff]; right
 refine Bool.eq_false_iff.2 fun e => ?_
 have := List.all_eq_true.1 e (s.getD k 0) (by rw [List.getD_eq_getElem?_getD, List.getElem?_eq_getElem hk]; exact List.getElem_mem hk)
 exact h (of_decide_eq_true this)
theorem word_yes (s : List UInt8) (h : 0 < s.length ∧ s.length ≤ 19 ∧ ¬ (1 < s.length ∧ (s.getD 0 0).toNat = 48)) (hj : ∀ j, j < s.length → 48 ≤ (s.getD j 0).toNat ∧ (s.getD j 0).toNat ≤ 57) : wordOk s = true := by
 unfold wordOk
 rw [decide_eq_true h, Bool.true_and]
 refine List.all_eq_true.2 fun c hc => ?_
 obtain ⟨j, hj', e⟩ := List.mem_iff_getElem.1 hc
 have := hj j hj'
 rw [List.getD_eq_getElem?_getD, List.getElem?_eq_getElem hj', e] at this
 exact decide_eq_true this
def numV (s : List UInt8) : Nat := if wordOk s then valS s s.length else 0
def numOk (s : List UInt8) : Bool := wordOk s && decide (valS s s.length ≤ 9223372036854775807)
theorem pow_step (k n d : Nat) (h : n < 10 ^ k) (hd : d ≤ 9) : 10 * n + d < 10 ^ (k + 1) := by rw [Nat.pow_succ]; omega
theorem pow_small (k n : Nat) (h : n < 10 ^ k) (hk : k ≤ 18) : n < 1000000000000000000 := Nat.lt_of_lt_of_le h (Nat.pow_le_pow_right (by decide) hk)
theorem str_at {s : List UInt8} {k : Nat} (h : k < s.length) : s[k]? = some (s.getD k 0) := by rw [List.getD_eq_getElem?_getD, List.getElem?_eq_getElem h]; rfl
theorem nuE : (∀ (s : List UInt8) (k : Nat), k < s.length → s[k]? = some (s.getD k 0)) := fun _ _ h => str_at h
theorem num_no {s : List UInt8} (h : wordOk s = false) : numV s = 0 ∧ numOk s = false := by unfold numV numOk; rw [h]; exact ⟨rfl, rfl⟩
theorem num_yes {s : List UInt8} (h : wordOk s = true) : numV s = valS s s.length ∧ numOk s = decide ((valS s s.length : Int) < 9223372036854775808) := by
 unfold numV numOk; rw [h]; exact ⟨rfl, by rw [Bool.true_and]; exact decide_eq_decide.2 ⟨fun h => by omega, fun h => by omega⟩⟩
theorem num_st {v c : Nat} (h : v < 1000000000000000000) (h1 : 48 ≤ c) (h2 : c ≤ 57) : IntKind.u64.wrap (10 * (v : Int) + IntKind.u64.wrap (IntKind.u8.wrap ((c : Int) - 48))) = ((10 * v + (c - 48) : Nat) : Int) := by
 rw [IntKind.wrap_u8, u64_in (_ % _) (by omega), u64_in _ (by omega)]; omega
theorem num_next {s : List UInt8} {k : Nat} (hp : k ≤ s.length ∧ valS s k < 10 ^ k ∧ ∀ j, j < k → 48 ≤ (s.getD j 0).toNat ∧ (s.getD j 0).toNat ≤ 57) (h : k < s.length) (h1 : 48 ≤ (s.getD k 0).toNat) (h2 : (s.getD k 0).toNat ≤ 57) :
 k + 1 ≤ s.length ∧ valS s (k + 1) < 10 ^ (k + 1) ∧ ∀ j, j < k + 1 → 48 ≤ (s.getD j 0).toNat ∧ (s.getD j 0).toNat ≤ 57 := by
 refine ⟨h, by rw [valS_succ s k h]; exact pow_step k _ _ hp.2.1 (by omega), fun j h' => ?_⟩
 rcases Nat.lt_or_ge j k with h3 | h3
 ·exact hp.2.2 j h3
 ·obtain rfl : j = k := by omega
  exact ⟨h1, h2⟩
@[go_sem] noncomputable def rnumF : PFn := PF [SS] (fun (s : List UInt8) => s.length ≤ 4611686018427387904) (fun (s : List UInt8) => [.int .u64 (numV s : Int), .bool (numOk s)])
theorem rnum_ok : Pure E 201 rnumF := Pure.of_sig (rs := [.tmp 2, .tmp 3]) (n := 51) Tryz.func201 rfl rfl rfl (Nat.le_of_ble_eq_true rfl) (by
 intro (s : List UInt8) hds
 refine st0 ?_
 refine rg sound_nil [0] nuE ?_
 refine rB sound_nil [0, 23] nuE fun K' hK => ?_
 repeat' first | (refine lf hK nuE ?_; clear hK K') | with_reducible apply And.intro | refine sA nuE (fun _ => ?_) fun _ => ?_ | refine sAb nuE (fun _ => ?_) fun _ => ?_ | refine sAl nuE (fun g => ?_) fun g => ?_ | exact sd | exact sde nuE | exact sdp nuE | refine stk nuE ?_ | fail
 all_goals
  refine cn ?_ ?_
  ·intro h; try exact absurd h (by decide)
   all_goals
    have hy := num_no (word_no1 s (by omega))
    refine rg sound_nil [2, 3] nuE ?_
    exact fz hy
  ·intro h; try exact absurd h (by decide)
   all_goals
    have hc : 0 < s.length ∧ s.length ≤ 19 ∧ ¬ (1 < s.length ∧ (s.getD 0 0).toNat = 48) := by omega
    refine rg sound_nil [0, 4] nuE ?_
    refine rg sound_nil [0, 4, 5] nuE ?_
    refine nx ?_
    refine VC.loopP (ι := Nat) [0] (fun i => [(5, .dat (.int .i64 (i : Int))), (4, .dat (.int .u64 (valS s i : Int)))]) (fun _ => []) (fun i => i ≤ s.length ∧ valS s i < 10 ^ i ∧ ∀ j, j < i → 48 ≤ (s.getD j 0).toNat ∧ (s.getD j 0).toNat ≤ 57) (fun i => s.length - i) 0 (⟨Nat.zero_le _, by simp [valS_zero], fun j hj => absurd hj (Nat.not_lt_zero _)⟩) (ete (valS_zero s)) ?_
    rintro i hp; try dsimp only at hp
    refine st0 ?_
    refine rg sound_nil [0, 4, 5, 27] nuE ?_
    refine cn ?_ ?_
    ·intro h; try exact absurd h (by decide)
     all_goals
      refine rB sound_nil [0, 4, 5, 39] nuE fun K' hK => ?_
      repeat' first | (refine lf hK nuE ?_; clear hK K') | with_reducible apply And.intro | refine sA nuE (fun _ => ?_) fun _ => ?_ | refine sAb nuE (fun _ => ?_) fun _ => ?_ | refine sAl nuE (fun g => ?_) fun g => ?_ | exact sd | exact sde nuE | exact sdp nuE | refine stk nuE ?_ | fail
      all_goals
       refine cn ?_ ?_
       ·intro h; try exact absurd h (by decide)
        all_goals
         have hy := num_no (word_no2 s i (by omega) (by omega))
         refine rg sound_nil [2, 3] nuE ?_
         exact fz hy
       ·intro h; try exact absurd h (by decide)
        all_goals
         have hvs := pow_small i _ hp.2.1 (by omega)
         have hst := num_st (c := (s.getD i 0).toNat) hvs (by omega) (by omega)
         refine rgL sound_nil nuE ?_
         refine rgL sound_nil nuE ?_
         refine nx ?_
         exact ⟨i + 1, num_next hp (by omega) (by omega) (by omega), ete (And.intro hst (And.intro nuE (valS_succ s i (by omega)))), by omega⟩
    ·intro h; try exact absurd h (by decide)
     all_goals
      obtain rfl : i = s.length := by omega
      have hy := num_yes (word_yes s hc hp.2.2)
      refine rg sound_nil [2, 3] nuE ?_
      exact fz hy)
end Go.Proofs.YtpajpkbipagjpaaGreatDoor.Oc
namespace Go.Proofs.YtpajpkbipagjpaaGreatDoor.Oc
open Go Go.RowKit Go.Proofs.YtpajpkbipagjpaaGreatDoor.Vm Go.Proofs.YtpajpkbipagjpaaGreatDoor.Tr Go.IntWalk
set_option maxRecDepth 100000
set_option maxHeartbeats 4000000
noncomputable def ΦRP : Fns := tab [(201, rnumF), (202, rmayF)]
theorem ΦRP_ok : Sound E ΦRP := sound_cons (by kernel_rfl) rnum_ok (sound_cons (by kernel_rfl) rmay_ok (sound_nil))
@[go_sem] theorem ΦRP_r : ΦRP 201 = some rnumF ∧ ΦRP 202 = some rmayF := ⟨rfl, rfl⟩
def parseC : List UInt8 → List UInt8 → List Nat → Option (List Nat)
 | [], cur, out => if numOk cur then some (out ++ [numV cur]) else none
 | c :: r, cur, out => if c.toNat = 46 then (if numOk cur then parseC r [] (out ++ [numV cur]) else none) else parseC r (cur ++ [c]) out
def wd (s : List UInt8) (f i : Nat) : List UInt8 := (s.drop f).take (i - f)
def contP (s : List UInt8) (i f : Nat) (out : List Nat) : Option (List Nat) := if i ≤ s.length then parseC (s.drop i) (wd s f i) out else some out
def parseR (s : List UInt8) : Option (List Nat) := match parseC s [] [] with
 | some l => if may l then some l else none
 | none => none
theorem contP_start (s : List UInt8) : contP s 0 0 [] = parseC s [] [] := by simp [contP, wd]
theorem drop_cons {s : List UInt8} {i : Nat} (h : i < s.length) : s.drop i = s.getD i 0 :: s.drop (i + 1) := by
 rw [List.drop_eq_getElem_cons h, List.getD_eq_getElem?_getD, List.getElem?_eq_getElem h]; rfl
theorem wd_succ (s : List UInt8) (f i : Nat) (h : i < s.length) (hf : f ≤ i) : wd s f (i + 1) = wd s f i ++ [s.getD i 0] := by
 unfold wd
 rw [show i + 1 - f = (i - f) + 1 by omega, List.take_add_one, List.getElem?_drop, show f + (i - f) = i by omega, List.getElem?_eq_getElem h, List.getD_eq_getElem?_getD, List.getElem?_eq_getElem h]
 rfl
theorem wd_self (s : List UInt8) (f : Nat) : wd s f f = [] := by simp [wd]
theorem wd_len (s : List UInt8) (f i : Nat) : (wd s f i).length ≤ s.length := by simp only [wd, List.length_take, List.length_drop]; omega
theorem contP_skip (s : List UInt8) (i f : Nat) (out : List Nat) (h : i < s.length) (hf : f ≤ i) (h' : (s.getD i 0).toNat ≠ 46) : contP s (i + 1) f out = contP s i f out := by
 unfold contP
 rw [if_pos (by omega), if_pos (by omega), drop_cons h, wd_succ s f i h hf]
 simp only [parseC, if_neg h']
theorem contP_word (s : List UInt8) (i f : Nat) (out : List Nat) (h : i ≤ s.length) (h' : i < s.length → (s.getD i 0).toNat = 46) (hok : numOk (wd s f i) = true) : contP s (i + 1) (i + 1) (out ++ [numV (wd s f i)]) = contP s i f out := by
 unfold contP
 rw [if_pos h]
 rcases Nat.lt_or_ge i s.length with h1 | h1
 ·rw [if_pos (by omega), drop_cons h1, wd_self]
  simp only [parseC, if_pos (h' h1), hok, if_true]
 ·rw [if_neg (by omega), List.drop_eq_nil_of_le h1]
  simp only [parseC, hok, if_true]
theorem contP_bad (s : List UInt8) (i f : Nat) (out : List Nat) (h : i ≤ s.length) (h' : i < s.length → (s.getD i 0).toNat = 46) (hok : numOk (wd s f i) = false) : contP s i f out = none := by
 unfold contP
 rw [if_pos h]
 rcases Nat.lt_or_ge i s.length with h1 | h1
 ·rw [drop_cons h1]
  simp only [parseC, if_pos (h' h1), hok]; rfl
 ·rw [List.drop_eq_nil_of_le h1]
  simp only [parseC, hok]; rfl
theorem contP_end (s : List UInt8) (i f : Nat) (out : List Nat) (h : s.length < i) : contP s i f out = some out := if_neg (by omega)
theorem wd_eq (s : List UInt8) (f i : Nat) : List.take ((i : Int) - (f : Int)).toNat (List.drop f s) = wd s f i := by unfold wd; rw [show ((i : Int) - (f : Int)).toNat = i - f by omega]
theorem parseR_bad {s : List UInt8} (h : parseC s [] [] = none) : parseR s = none := by unfold parseR; rw [h]
theorem parseR_no {s : List UInt8} {out : List Nat} (h : parseC s [] [] = some out) (h' : may out = false) : parseR s = none := by unfold parseR; rw [h]; dsimp only; rw [h']; rfl
theorem parseR_yes {s : List UInt8} {out : List Nat} (h : parseC s [] [] = some out) (h' : may out = true) : parseR s = some out := by unfold parseR; rw [h]; dsimp only; rw [if_pos h']
theorem rpE : (∀ (s : List UInt8) (k : Nat), k < s.length → s[k]? = some (s.getD k 0)) ∧ (∀ (s : List UInt8) (f i : Nat), List.take ((i : Int) - (f : Int)).toNat (List.drop f s) = wd s f i) ∧ ∀ n : Nat, ((n : Int)).toNat = n := ⟨fun _ _ h => str_at h, wd_eq, fun n => Int.toNat_natCast n⟩
@[go_sem] noncomputable def rparseF : PFn := PF [SS] (fun (s : List UInt8) => s.length ≤ 100000) (fun (s : List UInt8) => [.lst (numsD ((parseR s).getD [])), .int .i64 (if (parseR s).isSome then 0 else 140)])
theorem rparse_ok : Pure E 153 rparseF := Pure.of_sig (rs := [.tmp 2, .tmp 3]) (n := 47) Tryz.func153 rfl rfl rfl (Nat.le_of_ble_eq_true rfl) (by
 intro (s : List UInt8) hds
 refine st0 ?_
 refine rg ΦRP_ok [0] rpE ?_
 refine rg ΦRP_ok [0, 4] rpE ?_
 refine rg ΦRP_ok [0, 4, 5] rpE ?_
 refine rg ΦRP_ok [0, 4, 5, 6] rpE ?_
 refine nx ?_
 refine VC.loopP (ι := Nat × Nat × List Nat) [0] (fun i => [(6, .dat (.int .i64 (i.1 : Int))), (5, .dat (.int .i64 (i.2.1 : Int))), (4, .sl 1 0 i.2.2.length)]) (fun i => [(1, .arr 158 1 (numsD i.2.2) 0)]) (fun i => i.1 ≤ s.length + 1 ∧ i.2.1 ≤ i.1 ∧ i.2.2.length ≤ i.1 ∧ contP s i.1 i.2.1 i.2.2 = parseC s [] []) (fun i => s.length + 1 - i.1) (0, 0, []) ⟨Nat.zero_le _, Nat.zero_le _, Nat.le_refl _, contP_start s⟩ ?_ ?_
 ·refine (Ent.nilT 4 1 158 1 (by decide) (by simp -implicitDefEqProofs only [go_sem, Nat.reduceLT, Nat.reduceAdd, Nat.reduceEqDiff, reduceIte, Nat.reduceMul, Nat.reduceSub, reduceCtorEq, Int.reduceNe, Int.reduceEq, ne_eq, Nat.reduceLeDiff, Nat.reduceMod, Nat.reduceDiv]) (by simp -implicitDefEqProofs only [go_sem, Nat.reduceLT, Nat.reduceAdd, Nat.reduceEqDiff, reduceIte, Nat.reduceMul, Nat.reduceSub, reduceCtorEq, Int.reduceNe, Int.reduceEq, ne_eq, Nat.reduceLeDiff, Nat.reduceMod, Nat.reduceDiv])).trans (Ent.to rfl rfl rfl ?_ ?_)
  ·simp -implicitDefEqProofs only [go_sem, Nat.reduceLT, Nat.reduceAdd, Nat.reduceEqDiff, reduceIte, Nat.reduceMul, Nat.reduceSub, reduceCtorEq, Int.reduceNe, Int.reduceEq, ne_eq, Nat.reduceLeDiff, Nat.reduceMod, Nat.reduceDiv]; (try simp only [D.dat.injEq, Vm.Data.int.injEq, true_and, and_true, and_self, eq_self]); (try omega); (try ((repeat' apply And.intro) <;> first | omega | rfl))
  ·(repeat' (first | exact all_nil | (refine all_cons ?_ ?_))) <;> (simp -implicitDefEqProofs only [go_sem, Nat.reduceLT, Nat.reduceAdd, Nat.reduceEqDiff, reduceIte, Nat.reduceMul, Nat.reduceSub, reduceCtorEq, Int.reduceNe, Int.reduceEq, ne_eq, Nat.reduceLeDiff, Nat.reduceMod, Nat.reduceDiv]; (try rfl); try rfl)
 rintro ⟨i, f, out⟩ hp; (try dsimp only at hp); obtain ⟨hi, hf, hl, hc⟩ := hp
 refine st0 ?_
 have hwl := wd_len s f i
 refine rg ΦRP_ok [0, 4, 5, 6, 13] rpE ?_
 refine cn ?_ ?_
 ·intro h; try exact absurd h (by decide)
  all_goals
   refine rB ΦRP_ok [0, 4, 5, 6, 25] rpE fun K' hK => ?_
   repeat' first | (refine lf hK rpE ?_; clear hK K') | with_reducible apply And.intro | refine sA rpE (fun _ => ?_) fun _ => ?_ | refine sAb rpE (fun _ => ?_) fun _ => ?_ | refine sAl rpE (fun g => ?_) fun g => ?_ | exact sd | exact sde rpE | exact sdp rpE | refine stk rpE ?_ | fail
   all_goals
    refine cn ?_ ?_
    ·intro h; try exact absurd h (by decide)
     all_goals
      refine rgL ΦRP_ok rpE ?_
      refine nx ?_
      first
      | (refine ⟨(i + 1, f, out), ⟨by omega, by dsimp only; omega, by dsimp only; omega, ?_⟩, Ent.to rfl rfl rfl (by simp -implicitDefEqProofs only [go_sem, Nat.reduceLT, Nat.reduceAdd, Nat.reduceEqDiff, reduceIte, Nat.reduceMul, Nat.reduceSub, reduceCtorEq, Int.reduceNe, Int.reduceEq, ne_eq, Nat.reduceLeDiff, Nat.reduceMod, Nat.reduceDiv]; (try simp (disch := omega) only [i64_in, tmodn, tdivn]); (try simp only [D.dat.injEq, Vm.Data.int.injEq, true_and, and_true, and_self, eq_self]); (try omega); (try ((repeat' apply And.intro) <;> first | omega | rfl))) (by (repeat' (first | exact all_nil | (refine all_cons ?_ ?_))) <;> (simp -implicitDefEqProofs only [go_sem, Nat.reduceLT, Nat.reduceAdd, Nat.reduceEqDiff, reduceIte, Nat.reduceMul, Nat.reduceSub, reduceCtorEq, Int.reduceNe, Int.reduceEq, ne_eq, Nat.reduceLeDiff, Nat.reduceMod, Nat.reduceDiv]; (try rfl); try rfl)), by dsimp only; omega⟩
         dsimp only; rw [contP_skip s i f out (by omega) hf (by omega)]; exact hc)
      | (refine ⟨(i + 1, i + 1, out ++ [numV (wd s f i)]), ⟨by omega, by dsimp only; omega, by simp only [List.length_append, List.length_cons, List.length_nil]; omega, ?_⟩, Ent.to rfl rfl rfl (by simp -implicitDefEqProofs only [go_sem, Nat.reduceLT, Nat.reduceAdd, Nat.reduceEqDiff, reduceIte, Nat.reduceMul, Nat.reduceSub, reduceCtorEq, Int.reduceNe, Int.reduceEq, ne_eq, Nat.reduceLeDiff, Nat.reduceMod, Nat.reduceDiv]; (try simp (disch := omega) only [i64_in, tmodn, tdivn]); (try simp only [List.length_append, List.length_cons, List.length_nil]); (try simp only [D.dat.injEq, Vm.Data.int.injEq, true_and, and_true, and_self, eq_self]); (try omega); (try ((repeat' apply And.intro) <;> first | omega | rfl))) (by (repeat' (first | exact all_nil | (refine all_cons ?_ ?_))) <;> (simp -implicitDefEqProofs only [go_sem, Nat.reduceLT, Nat.reduceAdd, Nat.reduceEqDiff, reduceIte, Nat.reduceMul, Nat.reduceSub, reduceCtorEq, Int.reduceNe, Int.reduceEq, ne_eq, Nat.reduceLeDiff, Nat.reduceMod, Nat.reduceDiv]; (try rfl); try (simp only [numsD_snoc]))), by dsimp only; omega⟩
         dsimp only; rw [contP_word s i f out (by omega) (fun h9 => by omega) hok]; exact hc)
      | skip
    ·intro h; try exact absurd h (by decide)
     all_goals
      refine rg ΦRP_ok [0, 4, 6, 7, 8] rpE ?_
      refine rg ΦRP_ok [0, 4, 6, 7, 35] rpE ?_
      refine cn ?_ ?_
      ·intro h; try exact absurd h (by decide)
       all_goals
        have hok : numOk (wd s f i) = false := by simp_all
        have hb := contP_bad s i f out (by omega) (fun h9 => by omega) hok
        have hy := parseR_bad (hc ▸ hb)
        refine rg ΦRP_ok [2, 3] rpE ?_
        exact fz hy
      ·intro h; try exact absurd h (by decide)
       all_goals
        have hok : numOk (wd s f i) = true := by simp_all
        refine rg ΦRP_ok [0, 4, 6] rpE ?_
        refine rgL ΦRP_ok rpE ?_
        refine rgL ΦRP_ok rpE ?_
        refine nx ?_
        first
        | (refine ⟨(i + 1, f, out), ⟨by omega, by dsimp only; omega, by dsimp only; omega, ?_⟩, Ent.to rfl rfl rfl (by simp -implicitDefEqProofs only [go_sem, Nat.reduceLT, Nat.reduceAdd, Nat.reduceEqDiff, reduceIte, Nat.reduceMul, Nat.reduceSub, reduceCtorEq, Int.reduceNe, Int.reduceEq, ne_eq, Nat.reduceLeDiff, Nat.reduceMod, Nat.reduceDiv]; (try simp (disch := omega) only [i64_in, tmodn, tdivn]); (try simp only [D.dat.injEq, Vm.Data.int.injEq, true_and, and_true, and_self, eq_self]); (try omega); (try ((repeat' apply And.intro) <;> first | omega | rfl))) (by (repeat' (first | exact all_nil | (refine all_cons ?_ ?_))) <;> (simp -implicitDefEqProofs only [go_sem, Nat.reduceLT, Nat.reduceAdd, Nat.reduceEqDiff, reduceIte, Nat.reduceMul, Nat.reduceSub, reduceCtorEq, Int.reduceNe, Int.reduceEq, ne_eq, Nat.reduceLeDiff, Nat.reduceMod, Nat.reduceDiv]; (try rfl); try rfl)), by dsimp only; omega⟩
           dsimp only; rw [contP_skip s i f out (by omega) hf (by omega)]; exact hc)
        | (refine ⟨(i + 1, i + 1, out ++ [numV (wd s f i)]), ⟨by omega, by dsimp only; omega, by simp only [List.length_append, List.length_cons, List.length_nil]; omega, ?_⟩, Ent.to rfl rfl rfl (by simp -implicitDefEqProofs only [go_sem, Nat.reduceLT, Nat.reduceAdd, Nat.reduceEqDiff, reduceIte, Nat.reduceMul, Nat.reduceSub, reduceCtorEq, Int.reduceNe, Int.reduceEq, ne_eq, Nat.reduceLeDiff, Nat.reduceMod, Nat.reduceDiv]; (try simp (disch := omega) only [i64_in, tmodn, tdivn]); (try simp only [List.length_append, List.length_cons, List.length_nil]); (try simp only [D.dat.injEq, Vm.Data.int.injEq, true_and, and_true, and_self, eq_self]); (try omega); (try ((repeat' apply And.intro) <;> first | omega | rfl))) (by (repeat' (first | exact all_nil | (refine all_cons ?_ ?_))) <;> (simp -implicitDefEqProofs only [go_sem, Nat.reduceLT, Nat.reduceAdd, Nat.reduceEqDiff, reduceIte, Nat.reduceMul, Nat.reduceSub, reduceCtorEq, Int.reduceNe, Int.reduceEq, ne_eq, Nat.reduceLeDiff, Nat.reduceMod, Nat.reduceDiv]; (try rfl); try (simp only [numsD_snoc]))), by dsimp only; omega⟩
           dsimp only; rw [contP_word s i f out (by omega) (fun h9 => by omega) hok]; exact hc)
        | skip
 ·intro h; try exact absurd h (by decide)
  all_goals
   have hb := contP_end s i f out (by omega)
   rw [hc] at hb
   refine rg ΦRP_ok [4, 9] rpE ?_
   refine rg ΦRP_ok [4, 45] rpE ?_
   refine cn ?_ ?_
   ·intro h; try exact absurd h (by decide)
    all_goals
     have hy := parseR_no hb (by simp_all)
     refine rg ΦRP_ok [2, 3] rpE ?_
     exact fz hy
   ·intro h; try exact absurd h (by decide)
    all_goals
     have hy := parseR_yes hb (by simp_all)
     refine rg ΦRP_ok [2, 3] rpE ?_
     exact fz hy)
end Go.Proofs.YtpajpkbipagjpaaGreatDoor.Oc
namespace Go.Proofs.YtpajpkbipagjpaaGreatDoor.Oc
open Go Go.RowKit Go.Proofs.YtpajpkbipagjpaaGreatDoor.Vm Go.Proofs.YtpajpkbipagjpaaGreatDoor.Tr Go.IntWalk
set_option maxRecDepth 100000
set_option maxHeartbeats 4000000
def knownL : List (List UInt8) := [[115, 104, 97, 50, 50, 52], [50, 46, 49, 54, 46, 56, 52, 48, 46, 49, 46, 49, 48, 49, 46, 51, 46, 52, 46, 50, 46, 52], [115, 104, 97, 50, 53, 54], [50, 46, 49, 54, 46, 56, 52, 48, 46, 49, 46, 49, 48, 49, 46, 51, 46, 52, 46, 50, 46, 49], [115, 104, 97, 51, 56, 52], [50, 46, 49, 54, 46, 56, 52, 48, 46, 49, 46, 49, 48, 49, 46, 51, 46, 52, 46, 50, 46, 50], [115, 104, 97, 53, 49, 50], [50, 46, 49, 54, 46, 56, 52, 48, 46, 49, 46, 49, 48, 49, 46, 51, 46, 52, 46, 50, 46, 51], [114, 115, 97], [49, 46, 50, 46, 56, 52, 48, 46, 49, 49, 51, 53, 52, 57, 46, 49, 46, 49, 46, 49], [109, 103, 102, 49], [49, 46, 50, 46, 56, 52, 48, 46, 49, 49, 51, 53, 52, 57, 46, 49, 46, 49, 46, 56], [112, 115, 115], [49, 46, 50, 46, 56, 52, 48, 46, 49, 49, 51, 53, 52, 57, 46, 49, 46, 49, 46, 49, 48], [114, 115, 97, 50, 50, 52], [49, 46, 50, 46, 56, 52, 48, 46, 49, 49, 51, 53, 52, 57, 46, 49, 46, 49, 46, 49, 52], [114, 115, 97, 50, 53, 54], [49, 46, 50, 46, 56, 52, 48, 46, 49, 49, 51, 53, 52, 57, 46, 49, 46, 49, 46, 49, 49], [114, 115, 97, 51, 56, 52], [49, 46, 50, 46, 56, 52, 48, 46, 49, 49, 51, 53, 52, 57, 46, 49, 46, 49, 46, 49, 50], [114, 115, 97, 53, 49, 50], [49, 46, 50, 46, 56, 52, 48, 46, 49, 49, 51, 53, 52, 57, 46, 49, 46, 49, 46, 49, 51], [100, 97, 116, 97], [49, 46, 50, 46, 56, 52, 48, 46, 49, 49, 51, 53, 52, 57, 46, 49, 46, 55, 46, 49], [115, 105, 103, 110, 101, 100], [49, 46, 50, 46, 56, 52, 48, 46, 49, 49, 51, 53, 52, 57, 46, 49, 46, 55, 46, 50], [99, 111, 110, 116, 101, 110, 116, 84, 121, 112, 101], [49, 46, 50, 46, 56, 52, 48, 46, 49, 49, 51, 53, 52, 57, 46, 49, 46, 57, 46, 51], [109, 101, 115, 115, 97, 103, 101, 68, 105, 103, 101, 115, 116], [49, 46, 50, 46, 56, 52, 48, 46, 49, 49, 51, 53, 52, 57, 46, 49, 46, 57, 46, 52], [115, 105, 103, 110, 105, 110, 103, 84, 105, 109, 101], [49, 46, 50, 46, 56, 52, 48, 46, 49, 49, 51, 53, 52, 57, 46, 49, 46, 57, 46, 53], [99, 111, 117, 110, 116, 101, 114, 115, 105, 103, 110, 97, 116, 117, 114, 101], [49, 46, 50, 46, 56, 52, 48, 46, 49, 49, 51, 53, 52, 57, 46, 49, 46, 57, 46, 54], [116, 115, 116, 73, 110, 102, 111], [49, 46, 50, 46, 56, 52, 48, 46, 49, 49, 51, 53, 52, 57, 46, 49, 46, 57, 46, 49, 54, 46, 49, 46, 52], [115, 105, 103, 110, 105, 110, 103, 67, 101, 114, 116, 105, 102, 105, 99, 97, 116, 101, 86, 50], [49, 46, 50, 46, 56, 52, 48, 46, 49, 49, 51, 53, 52, 57, 46, 49, 46, 57, 46, 49, 54, 46, 50, 46, 52, 55], [99, 111, 109, 109, 111, 110, 78, 97, 109, 101], [50, 46, 53, 46, 52, 46, 51], [99, 111, 117, 110, 116, 114, 121, 78, 97, 109, 101], [50, 46, 53, 46, 52, 46, 54], [111, 114, 103, 97, 110, 105, 122, 97, 116, 105, 111, 110, 78, 97, 109, 101], [50, 46, 53, 46, 52, 46, 49, 48], [107, 101, 121, 85, 115, 97, 103, 101], [50, 46, 53, 46, 50, 57, 46, 49, 53], [98, 97, 115, 105, 99, 67, 111, 110, 115, 116, 114, 97, 105, 110, 116, 115], [50, 46, 53, 46, 50, 57, 46, 49, 57], [101, 120, 116, 75, 101, 121, 85, 115, 97, 103, 101], [50, 46, 53, 46, 50, 57, 46, 51, 55], [116, 105, 109, 101, 83, 116, 97, 109, 112, 105, 110, 103], [49, 46, 51, 46, 54, 46, 49, 46, 53, 46, 53, 46, 55, 46, 51, 46, 56]]
theorem knownL_len : knownL.length = 52 := by decide +kernel
theorem knownL_le : ∀ x ∈ knownL, x.length ≤ 100 := by decide +kernel
theorem knownL_at (k : Nat) : (knownL.getD k []).length ≤ 100 := by
 rw [List.getD_eq_getElem?_getD]
 rcases Nat.lt_or_ge k knownL.length with h | h
 ·rw [List.getElem?_eq_getElem h]; exact knownL_le _ (List.getElem_mem h)
 ·rw [List.getElem?_eq_none h]; simp
theorem parseR_may {s : List UInt8} {l : List Nat} (h : parseR s = some l) : may l = true := by
 unfold parseR at h
 split at h
 ·split at h
  ·rename_i hm; injection h with h; subst h; exact hm
  ·cases h
 ·cases h
theorem parseR_len (s : List UInt8) : ((parseR s).getD []).length ≤ 20 := by
 cases h : parseR s with
 | none => simp
 | some l =>
   have := of_decide_eq_true (parseR_may h)
   simp only [Option.getD_some]; exact this.2.1
def namedL : List (List UInt8) → List UInt8 → List UInt8
 | n :: t :: r, name => if n = name then rencO ((parseR t).getD []) else namedL r name
 | _, _ => []
theorem nat_succ_toNat (n : Nat) : ((n : Int) + 1).toNat = n + 1 := by omega
theorem drop_two (l : List (List UInt8)) (k : Nat) (h : k + 1 < l.length) : l.drop k = l.getD k [] :: l.getD (k + 1) [] :: l.drop (k + 2) := by
 rw [List.drop_eq_getElem_cons (by omega), List.drop_eq_getElem_cons h, List.getD_eq_getElem?_getD, List.getD_eq_getElem?_getD, List.getElem?_eq_getElem h, List.getElem?_eq_getElem (by omega : k < l.length)]; rfl
theorem namedL_hit (l : List (List UInt8)) (k : Nat) (name : List UInt8) (h : k + 1 < l.length) (h' : l.getD k [] = name) : namedL (l.drop k) name = rencO ((parseR (l.getD (k + 1) [])).getD []) := by
 rw [drop_two l k h]; simp only [namedL, if_pos h']
theorem namedL_next (l : List (List UInt8)) (k : Nat) (name : List UInt8) (h : k + 1 < l.length) (h' : ¬ l.getD k [] = name) : namedL (l.drop (k + 2)) name = namedL (l.drop k) name := by
 rw [drop_two l k h]; simp only [namedL, if_neg h']
theorem rencO_len (l : List Nat) (h : l.length ≤ 20) : (rencO l).length ≤ 220 := by
 unfold rencO; split
 ·have := rencN_len l l.length; unfold renc; omega
 ·simp
theorem namedL_len (name : List UInt8) : ∀ l, (namedL l name).length ≤ 220
 | [] => by simp [namedL]
 | [_] => by simp [namedL]
 | n :: t :: r => by
   simp only [namedL]
   split
   ·exact rencO_len _ (parseR_len t)
   ·exact namedL_len name r
@[go_sem] noncomputable def rknownF : PFn := PF [] (True) ([.lst (strsD knownL)])
theorem rknown_ok : Pure E 152 rknownF := Pure.of_sig (rs := [.tmp 0]) (n := 2) Tryz.func152 rfl rfl rfl (Nat.le_of_ble_eq_true rfl) (by
 intro hds
 refine st0 ?_
 refine rg sound_nil [] trivial ?_
 refine rg sound_nil [0] trivial ?_
 exact fz trivial)
theorem knR : (∀ k : Nat, k < 52 → (strsD knownL).getD k [] = [.str (knownL.getD k [])]) ∧ (strsD knownL).length = 52 ∧ ∀ n : Nat, ((n : Int) + 1).toNat = n + 1 := ⟨fun k h => strsD_at (by rw [knownL_len]; exact h), by rw [strsD_len, knownL_len], nat_succ_toNat⟩
noncomputable def ΦRN : Fns := tab [(152, rknownF), (153, rparseF), (154, rbytesF)]
theorem ΦRN_ok : Sound E ΦRN := sound_cons (by kernel_rfl) rknown_ok (sound_cons (by kernel_rfl) rparse_ok (sound_cons (by kernel_rfl) rbytes_ok (sound_nil)))
@[go_sem] theorem ΦRN_r : ΦRN 152 = some rknownF ∧ ΦRN 153 = some rparseF ∧ ΦRN 154 = some rbytesF := ⟨rfl, rfl, rfl⟩
@[go_sem] noncomputable def rnamedF : PFn := PF [SS] (fun (s : List UInt8) => True) (fun (s : List UInt8) => [.lst (bytesD (namedL knownL s))])
theorem rnamed_ok : Pure E 110 rnamedF := Pure.of_sig (rs := [.tmp 2]) (n := 37) Tryz.func110 rfl rfl rfl (Nat.le_of_ble_eq_true rfl) (by
 intro (s : List UInt8) hds
 refine st0 ?_
 refine rg ΦRN_ok [0] knR ?_
 refine rg ΦRN_ok [0, 3] knR ?_
 refine rg ΦRN_ok [0, 3, 4] knR ?_
 refine nx ?_
 refine VC.loopP (ι := Nat) [0, 3] (fun i => [(4, .dat (.int .i64 ((2 * i : Nat) : Int)))]) (fun _ => []) (fun i => i ≤ 26 ∧ namedL (knownL.drop (2 * i)) s = namedL knownL s) (fun i => 26 - i) 0 (⟨Nat.zero_le _, rfl⟩) (et) ?_
 rintro i hp; try dsimp only at hp
 refine st0 ?_
 refine rg ΦRN_ok [0, 3, 4, 13] knR ?_
 refine cn ?_ ?_
 ·intro h; try exact absurd h (by decide)
  all_goals
   refine rg ΦRN_ok [0, 3, 4, 21] knR ?_
   refine cn ?_ ?_
   ·intro h; try exact absurd h (by decide)
    all_goals
     have hka := knownL_at (2 * i + 1)
     refine rg ΦRN_ok [5] knR ?_
     have hpl := parseR_len (knownL.getD (2 * i + 1) [])
     refine rg ΦRN_ok [7] knR ?_
     have hy : namedL knownL s = rencO ((parseR (knownL.getD (2 * i + 1) [])).getD []) := by rw [← hp.2, namedL_hit knownL (2 * i) s (by rw [knownL_len]; omega) (by assumption)]
     refine rg ΦRN_ok [2] knR ?_
     exact fz hy
   ·intro h; try exact absurd h (by decide)
    all_goals
     refine rgL ΦRN_ok knR ?_
     refine nx ?_
     exact ⟨i + 1, ⟨by omega, by rw [show 2 * (i + 1) = 2 * i + 2 by omega, namedL_next knownL (2 * i) s (by rw [knownL_len]; omega) (by assumption)]; exact hp.2⟩, et, by omega⟩
 ·intro h; try exact absurd h (by decide)
  all_goals
   have hy : namedL knownL s = [] := by rw [← hp.2, show 2 * i = 52 by omega]; rfl
   refine rg ΦRN_ok [2] knR ?_
   exact fz hy)
end Go.Proofs.YtpajpkbipagjpaaGreatDoor.Oc
namespace Go.Proofs.YtpajpkbipagjpaaGreatDoor.Oc
open Go Go.RowKit Go.Proofs.YtpajpkbipagjpaaGreatDoor.Vm Go.Proofs.YtpajpkbipagjpaaGreatDoor.Tr Go.IntWalk
set_option maxRecDepth 100000
set_option maxHeartbeats 4000000
def namedS (s : List UInt8) : List UInt8 := namedL knownL s
theorem namedS_len (s : List UInt8) : (namedS s).length ≤ 220 := namedL_len s _
noncomputable def ΦRM : Fns := tab [(110, rnamedF), (82, rprimF)]
theorem ΦRM_ok : Sound E ΦRM := sound_cons (by kernel_rfl) rnamed_ok (sound_cons (by kernel_rfl) rprim_ok (sound_nil))
@[go_sem] theorem ΦRM_r : ΦRM 110 = some rnamedF ∧ ΦRM 82 = some rprimF := ⟨rfl, rfl⟩
@[go_sem] noncomputable def rcnamedF : PFn := PF [SS] (fun (s : List UInt8) => True) (fun (s : List UInt8) => [nodeD (primT 6 (namedS s))])
theorem rcnamed_ok : Pure E 65 rcnamedF := Pure.of_sig (rs := [.cell 2 25]) (n := 6) Tryz.func65 rfl rfl rfl (Nat.le_of_ble_eq_true rfl) (by
 intro (s : List UInt8) hds
 have hl := namedS_len s
 refine st0 ?_
 refine rg ΦRM_ok [0, 2] (show namedL knownL s = namedS s from rfl) ?_
 refine rg ΦRM_ok [2] (show namedL knownL s = namedS s from rfl) ?_
 exact fz (show namedL knownL s = namedS s from rfl))
end Go.Proofs.YtpajpkbipagjpaaGreatDoor.Oc
namespace Go.Proofs.YtpajpkbipagjpaaGreatDoor.Oc
open Go Go.RowKit Go.Proofs.YtpajpkbipagjpaaGreatDoor.Vm Go.Proofs.YtpajpkbipagjpaaGreatDoor.Tr Go.IntWalk
set_option maxRecDepth 100000
set_option maxHeartbeats 4000000
theorem nm_eq {q : Int} (h : ¬ sizeH q = 0) : namedS (nameH q) = namedB (nameH q) ∧ namedS (rsaN q) = namedB (rsaN q) := by
 have hh : q = 1 ∨ q = 2 ∨ q = 3 ∨ q = 4 := by unfold sizeH at h; (repeat' split at h) <;> omega
 rcases hh with rfl | rfl | rfl | rfl <;> decide +kernel
theorem nm_nil {q : Int} (h : nameH q = []) : sizeH q = 0 := by unfold nameH at h; unfold sizeH; (repeat' split at h) <;> simp_all
theorem nm_some {q : Int} (h : ¬ nameH q = []) : ¬ sizeH q = 0 := by unfold nameH at h; unfold sizeH; (repeat' split at h) <;> simp_all
noncomputable def ΦRI : Fns := tab [(63, rnameF), (65, rcnamedF), (66, rnullF), (64, rseqF)]
theorem ΦRI_ok : Sound E ΦRI := sound_cons (by kernel_rfl) rname_ok (sound_cons (by kernel_rfl) rcnamed_ok (sound_cons (by kernel_rfl) rnull_ok (sound_cons (by kernel_rfl) rseq_ok (sound_nil))))
@[go_sem] theorem ΦRI_r : ΦRI 63 = some rnameF ∧ ΦRI 65 = some rcnamedF ∧ ΦRI 66 = some rnullF ∧ ΦRI 64 = some rseqF := ⟨rfl, rfl, rfl, rfl⟩
@[go_sem] noncomputable def rhalgF : PFn := PF [SI .i64, SB] (fun (q : Int) (nl : Bool) => True) (fun (q : Int) (nl : Bool) => [nodeD (hashT q nl), .int .i64 (if sizeH q = 0 then 200 else 0)])
theorem rhalg_ok : Pure E 12 rhalgF := Pure.of_sig (rs := [.cell 4 25, .tmp 5]) (n := 22) Tryz.func12 rfl rfl rfl (Nat.le_of_ble_eq_true rfl) (by
 intro (q : Int) (nl : Bool) hds
 have hl := namedS_len (nameH q)
 refine st0 ?_
 refine rg ΦRI_ok [0, 1, 4] szE ?_
 refine rg ΦRI_ok [1, 4, 6] szE ?_
 refine rg ΦRI_ok [1, 4, 6, 10] szE ?_
 refine cn ?_ ?_
 ·intro h; try exact absurd h (by decide)
  all_goals
   have hz := nm_nil (by assumption)
   have hy := And.intro (hashT_no nl hz) (And.intro hz zeroE)
   refine rg ΦRI_ok [4, 5] szE ?_
   exact fz hy
 ·intro h; try exact absurd h (by decide)
  all_goals
   have hz := nm_some (by assumption)
   refine rg ΦRI_ok [4, 6, 12] szE ?_
   refine cn ?_ ?_
   ·intro h; try exact absurd h (by decide)
    all_goals
     subst (by assumption : nl = true)
     have hy := And.intro (hashT_yes true hz) (And.intro hz (And.intro (nm_eq hz).1 (if_pos (rfl : true = true) : (if true = true then [primT 5 []] else []) = [primT 5 []])))
     refine rg ΦRI_ok [4, 5] szE ?_
     exact fz hy
   ·intro h; try exact absurd h (by decide)
    all_goals
     subst (by assumption : nl = false)
     have hy := And.intro (hashT_yes false hz) (And.intro hz (And.intro (nm_eq hz).1 (if_neg (by decide) : (if false = true then [primT 5 []] else []) = [])))
     refine rg ΦRI_ok [4, 5] szE ?_
     exact fz hy)
end Go.Proofs.YtpajpkbipagjpaaGreatDoor.Oc
namespace Go.Proofs.YtpajpkbipagjpaaGreatDoor.Oc
open Go Go.RowKit Go.Proofs.YtpajpkbipagjpaaGreatDoor.Vm Go.Proofs.YtpajpkbipagjpaaGreatDoor.Tr Go.IntWalk
set_option maxRecDepth 100000
set_option maxHeartbeats 4000000
def rrI (t : T) : Nat → Nat → Option Nat
 | 0, _ => none
 | f + 1, i => if hashT ((i + 1 : Nat) : Int) false = t ∨ hashT ((i + 1 : Nat) : Int) true = t then some (i + 1) else rrI t f (i + 1)
def rrH (t : T) : Int := match rrI t 4 0 with
 | some i => (i : Int)
 | none => 0
def rrN (t : T) : Bool := match rrI t 4 0 with
 | some i => decide (hashT (i : Int) true = t)
 | none => false
def rrE (t : T) : Int := match rrI t 4 0 with
 | some _ => 0
 | none => 200
def rrAt (t : T) (k : Nat) : Prop := rrI t (4 - (k - 1)) (k - 1) = rrI t 4 0
theorem rrAt_next {t : T} {k : Nat} (hk : 1 ≤ k ∧ k ≤ 4) (hp : rrAt t k) (hn : ¬ (hashT (k : Int) false = t ∨ hashT (k : Int) true = t)) : rrAt t (k + 1) := by
 unfold rrAt at hp ⊢
 rw [← hp, show 4 - (k - 1) = (4 - (k + 1 - 1)) + 1 by omega, rrI, show k - 1 + 1 = k by omega, if_neg hn, show k + 1 - 1 = k by omega]
theorem rrAt_hit {t : T} {k : Nat} (hk : 1 ≤ k ∧ k ≤ 4) (hp : rrAt t k) (hn : hashT (k : Int) false = t ∨ hashT (k : Int) true = t) : rrH t = (k : Int) ∧ rrN t = decide (hashT (k : Int) true = t) ∧ rrE t = 0 := by
 have e : rrI t 4 0 = some k := by
  unfold rrAt at hp
  rw [← hp, show 4 - (k - 1) = (4 - (k + 1 - 1)) + 1 by omega, rrI, show k - 1 + 1 = k by omega, if_pos hn]
 unfold rrH rrN rrE
 rw [e]; exact ⟨rfl, rfl, rfl⟩
theorem rrAt_end {t : T} (hp : rrAt t 5) : rrH t = 0 ∧ rrN t = false ∧ rrE t = 200 := by
 have e : rrI t 4 0 = none := by unfold rrAt at hp; rw [← hp]; rfl
 unfold rrH rrN rrE
 rw [e]; exact ⟨rfl, rfl, rfl⟩
noncomputable def ΦRJ : Fns := tab [(12, rhalgF), (15, rsame0F)]
theorem ΦRJ_ok : Sound E ΦRJ := sound_cons (by kernel_rfl) rhalg_ok (sound_cons (by kernel_rfl) rsame0_ok (sound_nil))
@[go_sem] theorem ΦRJ_r : ΦRJ 12 = some rhalgF ∧ ΦRJ 15 = some rsame0F := ⟨rfl, rfl⟩
@[go_sem] noncomputable def rrdhalgF : PFn := PF [ST] (fun (t : T) => t.sz ≤ 90000) (fun (t : T) => [.int .i64 (rrH t), .bool (rrN t), .int .i64 (rrE t)])
theorem rrdhalg_ok : Pure E 18 rrdhalgF := Pure.of_sig (rs := [.tmp 2, .tmp 3, .tmp 4]) (n := 38) Tryz.func18 rfl rfl rfl (Nat.le_of_ble_eq_true rfl) (by
 intro (t : T) hds
 refine st0 ?_
 refine rg ΦRJ_ok [1] trE ?_
 refine rg ΦRJ_ok [1, 5] trE ?_
 refine nx ?_
 refine VC.loopP (ι := Nat) [1] (fun i => [(5, .dat (.int .i64 (i : Int)))]) (fun _ => [(1, .cells [.dat (.int .i64 t.cls), .dat (.int .i64 t.tag), .dat (.bool t.cons), .dat (.lst (bytesD t.bytes)), .dat (.lst (nodesD t.kids))] false)]) (fun i => (1 ≤ i ∧ i ≤ 5) ∧ rrAt t i) (fun i => 5 - i) 1 (⟨by omega, rfl⟩) (ete trE) ?_
 rintro i hp; try dsimp only at hp
 refine st0 ?_
 refine rg ΦRJ_ok [1, 5, 13] trE ?_
 refine cn ?_ ?_
 ·intro h; try exact absurd h (by decide)
  all_goals
   refine rg ΦRJ_ok [1, 5, 6] trE ?_
   refine rg ΦRJ_ok [1, 5, 6, 8] trE ?_
   have hs1 := hashT_sz (i : Int) false
   have hs2 := hashT_sz (i : Int) true
   refine rg ΦRJ_ok [1, 5, 8, 10] trE ?_
   refine rg ΦRJ_ok [1, 5, 10, 11] trE ?_
   refine rB ΦRJ_ok [1, 5, 11, 35] trE fun K' hK => ?_
   repeat' first | (refine lf hK trE ?_; clear hK K') | with_reducible apply And.intro | refine sA trE (fun _ => ?_) fun _ => ?_ | refine sAb trE (fun _ => ?_) fun _ => ?_ | refine sAl trE (fun g => ?_) fun g => ?_ | exact sd | exact sde trE | exact sdp trE | refine stk trE ?_ | fail
   all_goals
    refine cn ?_ ?_
    ·intro h; try exact absurd h (by decide)
     all_goals
      have hy := rrAt_hit (by omega) hp.2 (by simp_all)
      refine rg ΦRJ_ok [2, 3, 4] trE ?_
      exact fz hy
    ·intro h; try exact absurd h (by decide)
     all_goals
      refine rgL ΦRJ_ok trE ?_
      refine nx ?_
      exact ⟨i + 1, ⟨by omega, rrAt_next (by omega) hp.2 (by simp_all)⟩, ete trE, by omega⟩
 ·intro h; try exact absurd h (by decide)
  all_goals
   have hy := rrAt_end (by rw [show 5 = i by omega]; exact hp.2)
   refine rg ΦRJ_ok [2, 3, 4] trE ?_
   exact fz hy)
end Go.Proofs.YtpajpkbipagjpaaGreatDoor.Oc

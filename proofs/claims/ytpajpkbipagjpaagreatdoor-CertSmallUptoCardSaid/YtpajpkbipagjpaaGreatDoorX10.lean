/- What functions of the program, of its library and of the document compute: their contracts, and laws about what they compute (X10). No condition. -/
import Derived.Test.YtpajpkbipagjpaaGreatDoorX09
import Derived.Test.YtpajpkbipagjpaaGreatDoorX07
import Derived.Test.YtpajpkbipagjpaaGreatDoorX04
import Derived.Shelf.Strings.Builder1
import Derived.Shelf.Strings.Builder2
import Derived.Test.YtpajpkbipagjpaaGreatDoorProg
import Derived.WalkKit
import Derived.BigCall
import Derived.BigGuard
import Derived.Test.YtpajpkbipagjpaaGreatDoorX08
set_option linter.unusedVariables false
set_option linter.unusedSimpArgs false
namespace Go.Proofs.YtpajpkbipagjpaaGreatDoor.Oc
open Go Go.RowKit Go.Proofs.YtpajpkbipagjpaaGreatDoor.Vm Go.Proofs.YtpajpkbipagjpaaGreatDoor.Tr Go.IntWalk
set_option maxRecDepth 100000
set_option maxHeartbeats 4000000
def byI (n : Int) : UInt8 := UInt8.ofNat (n % 256).toNat
def intR : Nat → Int → List UInt8 → List UInt8
 | 0, _, out => out
 | f + 1, n, out => if n / 128 = 0 ∨ n / 128 = -1 then out else intR f (n / 256) (byI (n / 256) :: out)
def intB (n : Int) : List UInt8 := intR 8 n [byI n]
def inB (k : Nat) : Int := [9223372036854775808, 36028797018963968, 140737488355328, 549755813888, 2147483648, 8388608, 32768, 128, 1].getD k 1
theorem inB_le {k : Nat} {m : Int} (hk : k ≤ 8) (h0 : -(inB k) ≤ m) (h1 : m < inB k) (h : ¬ (m / 128 = 0 ∨ m / 128 = -1)) : k < 8 ∧ -(inB (k + 1)) ≤ m / 256 ∧ m / 256 < inB (k + 1) := by
 have : k = 0 ∨ k = 1 ∨ k = 2 ∨ k = 3 ∨ k = 4 ∨ k = 5 ∨ k = 6 ∨ k = 7 ∨ k = 8 := by omega
 rcases this with rfl | rfl | rfl | rfl | rfl | rfl | rfl | rfl | rfl <;> simp [inB] at h0 h1 ⊢ <;> omega
theorem inB_in {k : Nat} {m : Int} (hk : k ≤ 8) (h0 : -(inB k) ≤ m) (h1 : m < inB k) : -9223372036854775808 ≤ m ∧ m < 9223372036854775808 := by
 have : k = 0 ∨ k = 1 ∨ k = 2 ∨ k = 3 ∨ k = 4 ∨ k = 5 ∨ k = 6 ∨ k = 7 ∨ k = 8 := by omega
 rcases this with rfl | rfl | rfl | rfl | rfl | rfl | rfl | rfl | rfl <;> simp [inB] at h0 h1 <;> omega
theorem intR_stop {f : Nat} {m : Int} {out : List UInt8} (h : m / 128 = 0 ∨ m / 128 = -1) : intR f m out = out := by
 cases f with
 | zero => rfl
 | succ f => rw [intR, if_pos h]
theorem intR_step {k : Nat} {m : Int} {out : List UInt8} (hk : k < 8) (h : ¬ (m / 128 = 0 ∨ m / 128 = -1)) : intR (8 - (k + 1)) (m / 256) (byI (m / 256) :: out) = intR (8 - k) m out := by
 rw [show 8 - k = (8 - (k + 1)) + 1 by omega, intR, if_neg h]
theorem intR_len : ∀ (f : Nat) (m : Int) (out : List UInt8), (intR f m out).length ≤ f + out.length
 | 0, _, out => by simp [intR]
 | f + 1, m, out => by
   rw [intR]
   split
   ·omega
   ·have := intR_len f (m / 256) (byI (m / 256) :: out); simp only [List.length_cons] at this; omega
theorem intB_len (n : Int) : (intB n).length ≤ 9 := intR_len 8 n _
theorem wrap8 (n : Int) : IntKind.u8.wrap n = ((byI n).toNat : Int) := by
 rw [IntKind.wrap_u8]; unfold byI; rw [UInt8.toNat_ofNat']; omega
theorem shrI (m : Int) : m.fdiv (2 ^ min (7 : Int).toNat 64) = m / 128 ∧ m.fdiv (2 ^ min (8 : Int).toNat 64) = m / 256 := ⟨Int.fdiv_eq_ediv_of_nonneg _ (by decide), Int.fdiv_eq_ediv_of_nonneg _ (by decide)⟩
theorem byI_cons (x : UInt8) (l : List UInt8) : [Vm.Data.int .u8 (x.toNat : Int)] :: bytesD l = bytesD (x :: l) := rfl
theorem inE : (∀ n : Int, IntKind.u8.wrap n = ((byI n).toNat : Int)) ∧ (∀ m : Int, m.fdiv (2 ^ min (7 : Int).toNat 64) = m / 128) ∧ (∀ m : Int, m.fdiv (2 ^ min (8 : Int).toNat 64) = m / 256) ∧ (∀ m : Int, m.fdiv 128 = m / 128) ∧ (∀ m : Int, m.fdiv 256 = m / 256) ∧
 (∀ x : UInt8, [[Vm.Data.int .u8 (x.toNat : Int)]] = bytesD [x]) ∧ ∀ (x : UInt8) (l : List UInt8), [Vm.Data.int .u8 (x.toNat : Int)] :: bytesD l = bytesD (x :: l) :=
 ⟨wrap8, fun m => (shrI m).1, fun m => (shrI m).2, fun m => Int.fdiv_eq_ediv_of_nonneg _ (by decide), fun m => Int.fdiv_eq_ediv_of_nonneg _ (by decide), fun _ => rfl, byI_cons⟩
noncomputable def ΦTI : Fns := tab [(109, primF)]
theorem ΦTI_ok : Sound E ΦTI := sound_cons (by kernel_rfl) prim_ok (sound_nil)
@[go_sem] theorem ΦTI_r : ΦTI 109 = some primF := rfl
@[go_sem] noncomputable def tintF : PFn := PF [SI .i64] (fun (n : Int) => -9223372036854775808 ≤ n ∧ n < 9223372036854775808) (fun (n : Int) => [nodeD (primT 2 (intB n))])
theorem tint_ok : Pure E 67 tintF := Pure.of_sig (rs := [.cell 2 25]) (n := 24) Tryz.func67 rfl rfl rfl (Nat.le_of_ble_eq_true rfl) (by
 intro (n : Int) hds
 obtain ⟨hn0, hn1⟩ := hds
 have hbl := intB_len n
 refine st0 ?_
 refine rg ΦTI_ok [0, 2] inE ?_
 refine rg ΦTI_ok [0, 2, 3] inE ?_
 refine nx ?_
 refine VC.loopP (ι := Nat × Int × List UInt8) [2] (fun i => [(0, .dat (.int .i64 i.2.1)), (3, .sl 2 0 i.2.2.length)]) (fun i => [(1, .cells [.dat (.int .i64 0), .dat (.int .i64 0), .dat (.bool false), .nilsl, .nilsl] false), (2, .arr 5 1 (bytesD i.2.2) 0)]) (fun i => i.1 ≤ 8 ∧ -(inB i.1) ≤ i.2.1 ∧ i.2.1 < inB i.1 ∧ i.2.2.length = i.1 + 1 ∧ intR (8 - i.1) i.2.1 i.2.2 = intB n) (fun i => 8 - i.1) (0, n, [byI n]) ⟨Nat.zero_le _, by simp [inB]; omega, by simp [inB]; omega, rfl, rfl⟩ ?_ ?_
 ·refine Ent.to rfl rfl rfl ?_ ?_
  ·simp -implicitDefEqProofs only [go_sem, inE]; (try simp only [D.dat.injEq, Vm.Data.int.injEq, true_and, and_true, and_self, eq_self]); (try omega); (try ((repeat' apply And.intro) <;> first | omega | rfl))
  ·(repeat' (first | exact all_nil | (refine all_cons ?_ ?_))) <;> (simp -implicitDefEqProofs only [go_sem]; (try rfl); (try simp only [inE]); try rfl)
 rintro ⟨k, m, out⟩ hp; (try dsimp only at hp); obtain ⟨hk, h0, h1, hl, hc⟩ := hp
 have hi := inB_in hk h0 h1
 refine st0 ?_
 refine rB ΦTI_ok [0, 2, 3, 14] inE fun K' hK => ?_
 repeat' first | (refine lf hK inE ?_; clear hK K') | with_reducible apply And.intro | refine sA inE (fun _ => ?_) fun _ => ?_ | refine sAb inE (fun _ => ?_) fun _ => ?_ | refine sAl inE (fun g => ?_) fun g => ?_ | exact sd | exact sde inE | exact sdp inE | refine stk inE ?_ | fail
 all_goals
  refine cn ?_ ?_
  ·intro h; try exact nd h
   all_goals
    have hz : ¬ (m / 128 = 0 ∨ m / 128 = -1) := by simp only [Bool.not_eq_eq_eq_not, Bool.not_true, Bool.not_false, decide_eq_false_iff_not, decide_eq_true_eq] at *; omega
    refine rg ΦTI_ok [0, 2, 3] inE ?_
    refine rgL ΦTI_ok inE ?_
    refine nx ?_
    have hb := inB_le hk h0 h1 hz
    refine ⟨(k + 1, m / 256, byI (m / 256) :: out), ⟨by omega, hb.2.1, hb.2.2, by simp only [List.length_cons]; omega, ?_⟩, ?_, by dsimp only; omega⟩
    ·dsimp only; rw [intR_step hb.1 hz]; exact hc
    ·refine (Ent.move 3 3 2 (by simp -implicitDefEqProofs only [go_sem]; try decide) (by simp -implicitDefEqProofs only [go_sem]; try decide) (by simp -implicitDefEqProofs only [go_sem]; exact rfl) (by simp -implicitDefEqProofs only [go_sem]; exact rfl)).trans (Ent.to rfl rfl rfl ?_ ?_)
     ·simp -implicitDefEqProofs only [go_sem]; (try simp only [List.length_cons, Nat.add_comm 1]); (try simp only [D.dat.injEq, Vm.Data.int.injEq, true_and, and_true, and_self, eq_self]); (try omega); (try ((repeat' apply And.intro) <;> first | omega | rfl))
     ·(repeat' (first | exact all_nil | (refine all_cons ?_ ?_))) <;> (simp -implicitDefEqProofs only [go_sem]; (try rfl); try rfl)
  ·intro h; try exact nd h
   all_goals
    have hz : m / 128 = 0 ∨ m / 128 = -1 := by simp only [Bool.not_eq_eq_eq_not, Bool.not_true, Bool.not_false, decide_eq_false_iff_not, decide_eq_true_eq] at *; omega
    have hy := (intR_stop (f := 8 - k) (out := out) hz).symm.trans hc
    have ho : out.length ≤ 9 := by omega
    refine rg ΦTI_ok [2] inE ?_
    exact fz hy)
end Go.Proofs.YtpajpkbipagjpaaGreatDoor.Oc
namespace Go.Proofs.YtpajpkbipagjpaaGreatDoor.Oc
open Go Go.RowKit Go.Proofs.YtpajpkbipagjpaaGreatDoor.Vm Go.Proofs.YtpajpkbipagjpaaGreatDoor.Tr Go.IntWalk
set_option maxRecDepth 100000
set_option maxHeartbeats 4000000
def beB : Nat → Nat → List UInt8
 | 0, _ => []
 | k + 1, n => beB k (n / 256) ++ [UInt8.ofNat (n % 256)]
def lenB (n : Nat) : List UInt8 := if n < 128 then [UInt8.ofNat n] else UInt8.ofNat (128 + ((beB 8 n).dropWhile (· == 0)).length) :: (beB 8 n).dropWhile (· == 0)
def tagB (c g : Int) (b : Bool) : UInt8 := UInt8.ofNat (64 * c + g + if b then 32 else 0).toNat
mutual
def encT : T → List UInt8
 | .mk c g b s ks => tagB c g b :: (lenB (s.length + (encsT ks).length) ++ (s ++ encsT ks))
def encsT : List T → List UInt8
 | [] => []
 | t :: ts => encT t ++ encsT ts
end
def conN (t : T) : Nat := t.bytes.length + (encsT t.kids).length
theorem encT_eq (t : T) : encT t = tagB t.cls t.tag t.cons :: (lenB (conN t) ++ (t.bytes ++ encsT t.kids)) := by cases t; rw [encT]; rfl
theorem encsT_nil : encsT [] = [] := by rw [encsT]
theorem encsT_cons (t : T) (l : List T) : encsT (t :: l) = encT t ++ encsT l := by rw [encsT]
theorem encsT_append : ∀ (a b : List T), encsT (a ++ b) = encsT a ++ encsT b
 | [], b => by rw [encsT_nil, List.nil_append, List.nil_append]
 | t :: a, b => by rw [List.cons_append, encsT_cons, encsT_cons, encsT_append a b, List.append_assoc]
theorem encsT_next {t : T} {i : Nat} (h : i < t.kids.length) : encsT (t.kids.take (i + 1)) = encsT (t.kids.take i) ++ encT (t.kids.getD i T.zero) := by
 rw [List.take_add_one, List.getElem?_eq_getElem h, encsT_append, List.getD_eq_getElem?_getD, List.getElem?_eq_getElem h]
 simp only [Option.toList_some, Option.getD_some, encsT_cons, encsT_nil, List.append_nil]
theorem encT_len (t : T) : (encT t).length = 1 + (lenB (conN t)).length + conN t := by
 rw [encT_eq, List.length_cons, List.length_append, List.length_append, conN]; omega
theorem lenB_small {n : Nat} (h : n < 128) : lenB n = [UInt8.ofNat n] := by unfold lenB; rw [if_pos h]
theorem beB_len : ∀ k n, (beB k n).length = k
 | 0, _ => rfl
 | k + 1, n => by rw [beB, List.length_append, beB_len k]; rfl
theorem beB_zero : ∀ k, beB k 0 = List.replicate k 0
 | 0 => rfl
 | k + 1 => by rw [beB, Nat.zero_div, beB_zero k, List.replicate_succ']; rfl
theorem dropZ_append (a : Nat) (l : List UInt8) : (List.replicate a 0 ++ l).dropWhile (· == 0) = l.dropWhile (· == 0) := by
 induction a with
 | zero => rfl
 | succ a ih => rw [List.replicate_succ, List.cons_append, List.dropWhile_cons, if_pos (by decide)]; exact ih
theorem beB_split : ∀ (k j n : Nat), n < 256 ^ j → beB (k + j) n = List.replicate k 0 ++ beB j n
 | k, 0, n, h => by
   obtain rfl : n = 0 := by simpa using h
   rw [Nat.add_zero, beB_zero, beB, List.append_nil]
 | k, j + 1, n, h => by
   rw [← Nat.add_assoc, beB, beB, beB_split k j (n / 256) (Nat.div_lt_of_lt_mul (by rw [Nat.pow_succ] at h; omega)), List.append_assoc]
theorem dropZ_le {n j : Nat} (h : n < 256 ^ j) (hj : j ≤ 8) : ((beB 8 n).dropWhile (· == 0)).length ≤ j := by
 rw [show 8 = (8 - j) + j by omega, beB_split _ _ _ h, dropZ_append]
 have := List.dropWhile_sublist (l := beB j n) (· == (0 : UInt8))
 have := this.length_le
 rw [beB_len] at this; exact this
theorem lenB_le {n : Nat} (h : n < 16777216) : (lenB n).length ≤ 4 := by
 unfold lenB
 split
 ·simp
 ·have := dropZ_le (n := n) (j := 3) (by omega) (by omega)
  rw [List.length_cons]; omega
theorem enc_sz (n : Nat) : ∀ t : T, t.sz ≤ n → t.sz ≤ 16000000 → (encT t).length ≤ t.sz ∧ conN t ≤ t.sz := by
 induction n using Nat.strongRecOn with
 | _ n ih =>
 intro t hn hb
 have key : ∀ l : List T, T.szs l < n → T.szs l ≤ 16000000 → (encsT l).length ≤ T.szs l := by
  intro l
  induction l with
  | nil => intro _ _; rw [encsT_nil]; exact Nat.zero_le _
  | cons x l ihl =>
    intro h h0
    rw [T.szs_cons] at h h0 ⊢
    have h1 := (ih x.sz (by omega) x (Nat.le_refl _) (by omega)).1
    have h2 := ihl (by omega) (by omega)
    rw [encsT_cons, List.length_append]; omega
 have hs := T.sz_eq t
 have hk := key t.kids (by omega) (by omega)
 have hc : conN t ≤ t.bytes.length + T.szs t.kids := by unfold conN; omega
 have hl := lenB_le (n := conN t) (by omega)
 rw [encT_len]
 omega
theorem enc_le {t : T} (h : t.sz ≤ 16000000) : (encT t).length ≤ t.sz ∧ conN t ≤ t.sz := enc_sz _ t (Nat.le_refl _) h
theorem encs0 (t : T) : (encsT (t.kids.take 0)).length = 0 := by rw [List.take_zero, encsT_nil]; rfl
theorem encs_lenN {t : T} {i : Nat} (h : i < t.kids.length) : (encsT (t.kids.take (i + 1))).length = (encsT (t.kids.take i)).length + (encT (t.kids.getD i T.zero)).length := by rw [encsT_next h, List.length_append]
theorem encs_take {t : T} {i : Nat} : t.bytes.length + (encsT (t.kids.take i)).length ≤ conN t := by
 unfold conN
 conv => rhs; rw [← List.take_append_drop i t.kids, encsT_append, List.length_append]
 omega
theorem con_end {t : T} {i : Nat} (h : i = t.kids.length) : ((t.bytes.length : Int) + ((encsT (t.kids.take i)).length : Int)) = (conN t : Int) := by
 unfold conN; rw [h, List.take_length]; omega
theorem enc_mem {t : T} {i : Nat} (h : i < t.kids.length) : (encsT (t.kids.take i)).length + (encT (t.kids.getD i T.zero)).length ≤ (encsT t.kids).length := by
 have := encs_take (t := t) (i := i + 1)
 rw [encs_lenN h] at this; unfold conN at this; omega
theorem byI_lenB {n : Int} (h0 : 0 ≤ n) (h1 : n < 128) : bytesD [byI n] = bytesD (lenB n.toNat) := by
 rw [lenB_small (by omega)]
 unfold byI
 rw [Int.emod_eq_of_lt h0 (by omega)]
@[go_sem] noncomputable def len1F : PFn := PF [SI .i64] (fun (n : Int) => 0 ≤ n ∧ n < 128) (fun (n : Int) => [.lst (bytesD (lenB n.toNat))])
theorem len1_ok : Pure E 184 len1F := Pure.of_sig (rs := [.tmp 2]) (n := 30) Tryz.func184 rfl rfl rfl (Nat.le_of_ble_eq_true rfl) (by
 intro (n : Int) hds
 have h1 := hds.1
 have h2 := hds.2
 have hl := byI_lenB h1 h2
 refine st0 ?_
 refine rg sound_nil [0] inE ?_
 refine rg sound_nil [0, 5] inE ?_
 refine cn ?_ ?_
 ·exact fun h => na h
 intro h
 refine rg sound_nil [0, 8] inE ?_
 refine cn ?_ ?_
 ·intro h; try exact na h
  all_goals
   refine rg sound_nil [2] inE ?_
   refine fi inE ?_
   exact hl
 ·exact fun h => na h)
@[go_sem] noncomputable def dconF (n : Nat) : PFn := PF [SPt] (fun (t : T) => t.sz < n ∧ t.sz ≤ 100) (fun (t : T) => [.int .i64 (conN t : Int)])
@[go_sem] noncomputable def sizF (n : Nat) : PFn := PF [SPt] (fun (t : T) => t.sz < n ∧ t.sz ≤ 100) (fun (t : T) => [.int .i64 ((encT t).length : Int)])
noncomputable def ΦSz (m : Nat) : Fns := tab [(184, len1F), (183, dconF m)]
theorem ΦSz_ok {m : Nat} (h : Pure E 183 (dconF m)) : Sound E (ΦSz m) := sound_cons (by kernel_rfl) len1_ok (sound_cons (by kernel_rfl) h sound_nil)
@[go_sem] theorem ΦSz_r (m : Nat) : ΦSz m 184 = some len1F ∧ ΦSz m 183 = some (dconF m) := ⟨rfl, rfl⟩
theorem siz_of {m : Nat} (hS : Pure E 183 (dconF m)) : Pure E 135 (sizF m) := Pure.of_sig (rs := [.tmp 2]) (n := 12) Tryz.func135 rfl rfl rfl (Nat.le_of_ble_eq_true rfl) (by
 intro (t : T) hds
 have hΦ := ΦSz_ok hS
 have hdl := enc_le (t := t) (by omega)
 have hd2 := encT_len t
 have hd3 : (lenB (conN t)).length = 1 := by rw [lenB_small (by omega)]; rfl
 refine st0 ?_
 refine rg hΦ [0] trivial ?_
 refine rg hΦ [3] trivial ?_
 refine rg hΦ [2] trivial ?_
 refine fi (bytesD_len) ?_
 omega)
noncomputable def ΦCo (m : Nat) : Fns := tab [(135, sizF m)]
theorem ΦCo_ok {m : Nat} (h : Pure E 183 (dconF m)) : Sound E (ΦCo m) := sound_cons (by kernel_rfl) (siz_of h) sound_nil
@[go_sem] theorem ΦCo_r (m : Nat) : ΦCo m 135 = some (sizF m) := rfl
theorem dcon_ok (n : Nat) : Pure E 183 (dconF n) := by
 induction n using Nat.strongRecOn with
 | _ n ih =>
 exact Pure.of_sig (rs := [.tmp 2]) (n := 31) Tryz.func183 rfl rfl rfl (Nat.le_of_ble_eq_true rfl) (by
  intro (t : T) hds
  have hΦ := ΦCo_ok (ih t.sz (by omega))
  have hkl := kids_len t
  have hdl := enc_le (t := t) (by omega)
  have hmn : (if (65537 : Int) < (t.bytes.length : Int) then 65537 else (t.bytes.length : Int)) = (t.bytes.length : Int) := if_neg (by have := T.sz_eq t; omega)
  refine st0 ?_
  refine rg hΦ [0] trivial ?_
  refine rg hΦ [0, 3] trivial ?_
  refine rg hΦ [0, 3, 15, 16] trivial ?_
  refine nx ?_
  refine VC.loopP (ι := Nat) [0, 15] (fun i => [(3, .dat (.int .i64 ((t.bytes.length : Int) + ((encsT (t.kids.take i)).length : Int)))), (16, .dat (.int .i64 (i : Int)))]) (fun _ => []) (fun i => i ≤ t.kids.length) (fun i => t.kids.length - i) 0 (by omega) (ete (And.intro hmn (encs0 t))) ?_
  rintro i hp; try dsimp only at hp
  refine st0 ?_
  refine rg hΦ [0, 3, 15, 16, 17] trivial ?_
  refine cn ?_ ?_
  ·intro h; try exact nd h
   all_goals
    have hi : i < t.kids.length := by omega
    refine rg hΦ [0, 3, 4, 15, 16] trivial ?_
    have hk := T.kid_sz (kid_mem' hi)
    have hna := encs_lenN hi
    have hnb := encs_take (t := t) (i := i + 1)
    refine rgL hΦ (nodesD_at hi) ?_
    refine rgL hΦ trivial ?_
    refine nx ?_
    exact ⟨i + 1, by omega, ete hna, by omega⟩
  ·intro h; try exact nd h
   all_goals
    have hy := con_end (t := t) (i := i) (by omega)
    refine rg hΦ [2] trivial ?_
    first
    | exact fz hy)
@[go_sem] noncomputable def dcon0F : PFn := dconF 101
theorem dcon0_ok : Pure E 183 dcon0F := dcon_ok 101
@[go_sem] noncomputable def siz0F : PFn := sizF 101
theorem siz0_ok : Pure E 135 siz0F := siz_of (dcon_ok 101)
noncomputable def ΦDS : Fns := tab [(116, checkgF), (135, siz0F)]
theorem ΦDS_ok : Sound E ΦDS := sound_cons (by kernel_rfl) checkg_ok (sound_cons (by kernel_rfl) siz0_ok (sound_nil))
@[go_sem] theorem ΦDS_r : ΦDS 116 = some checkgF ∧ ΦDS 135 = some siz0F := ⟨rfl, rfl⟩
@[go_sem] noncomputable def dsizeF : PFn := PF [ST] (fun (t : T) => goodT t ∧ t.sz ≤ 100) (fun (t : T) => [.int .i64 ((encT t).length : Int), .int .i64 0])
theorem dsize_ok : Pure E 97 dsizeF := Pure.of_sig (rs := [.tmp 2, .tmp 3]) (n := 15) Tryz.func97 rfl rfl rfl (Nat.le_of_ble_eq_true rfl) (by
 intro (t : T) hds
 have hg := hds.1
 have hdl := enc_le (t := t) (by omega)
 refine st0 ?_
 refine rg ΦDS_ok [1] trivial ?_
 refine rg ΦDS_ok [1, 4] trivial ?_
 refine rg ΦDS_ok [1, 4, 9] trivial ?_
 refine cn ?_ ?_
 ·intro h; try exact na h
  all_goals
   refine rg ΦDS_ok [2, 3] trivial ?_
   exact fz trivial
 ·intro h; try exact na h
  all_goals
   refine rg ΦDS_ok [5] trivial ?_
   refine rg ΦDS_ok [5, 13] trivial ?_
   refine cn ?_ ?_
   ·intro h; try exact na h
    all_goals
     refine rg ΦDS_ok [2, 3] trivial ?_
     exact fz trivial
   ·intro h; try exact na h
    all_goals
     refine rg ΦDS_ok [2, 3] trivial ?_
     exact fz trivial)
end Go.Proofs.YtpajpkbipagjpaaGreatDoor.Oc
namespace Go.Proofs.YtpajpkbipagjpaaGreatDoor.Oc
open Go Go.RowKit Go.Proofs.YtpajpkbipagjpaaGreatDoor.Vm Go.Proofs.YtpajpkbipagjpaaGreatDoor.Tr Go.IntWalk
set_option maxRecDepth 100000
set_option maxHeartbeats 4000000
def okN (t : T) : Prop := 0 ≤ t.cls ∧ t.cls ≤ 3 ∧ 0 ≤ t.tag ∧ t.tag ≤ 30
noncomputable def ΦTE : Fns := tab [(183, dcon0F), (184, len1F)]
theorem ΦTE_ok : Sound E ΦTE := sound_cons (by kernel_rfl) dcon0_ok (sound_cons (by kernel_rfl) len1_ok (sound_nil))
@[go_sem] theorem ΦTE_r : ΦTE 183 = some dcon0F ∧ ΦTE 184 = some len1F ∧ ΦTE 189 = none := ⟨rfl, rfl, rfl⟩
@[go_sem] theorem ΦTE_c : callable Tryz.prog 189 = true := by kernel_rfl
theorem firstA : ∀ (c : Fin 4) (g : Fin 31), IntKind.u8.wrap (bits .or .i64 (IntKind.i64.wrap ((c.val : Int) * 2 ^ min (Int.toNat 6) 64)) (g.val : Int)) = ((tagB (c.val : Int) (g.val : Int) false).toNat : Int) ∧ bits .or .u8 ((tagB (c.val : Int) (g.val : Int) false).toNat : Int) 32 = ((tagB (c.val : Int) (g.val : Int) true).toNat : Int) := by decide +kernel
theorem first_ok {t : T} (h : okN t) : IntKind.u8.wrap (bits .or .i64 (IntKind.i64.wrap (t.cls * 2 ^ min (Int.toNat 6) 64)) t.tag) = ((tagB t.cls t.tag false).toNat : Int) ∧ bits .or .u8 ((tagB t.cls t.tag false).toNat : Int) 32 = ((tagB t.cls t.tag true).toNat : Int) := by
 obtain ⟨h1, h2, h3, h4⟩ := h
 have := firstA ⟨t.cls.toNat, by omega⟩ ⟨t.tag.toNat, by omega⟩
 simp only [Int.toNat_of_nonneg h1, Int.toNat_of_nonneg h3] at this
 exact this
theorem tell_ok {H : List UInt8 → List (Nat × Blk)} {LIM : Nat}
 (step : ∀ {b out : List UInt8} {c : Fr} {stk : List Fr} {K : D → St → Prop}, Cln 3 c stk → (out ++ b).length ≤ LIM → K (.dat (.bool true)) ⟨c, stk, H (out ++ b)⟩ → VCyield E 21 [.dat (.lst (bytesD b))] ⟨c, stk, H out⟩ K) :
 ∀ (n : Nat) (t : T), t.sz ≤ n → t.sz ≤ 100 → (∀ x ∈ t.all, okN x) → ∀ (c : Fr) (stk : List Fr) (out : List UInt8) (K : D → St → Prop), Cln 3 c stk → (out ++ encT t).length ≤ LIM → K (.dat (.bool true)) ⟨c, stk, H (out ++ encT t)⟩ →
  VCcall E 189 [.dat (.ptr [.int .i64 t.cls, .int .i64 t.tag, .bool t.cons, .lst (bytesD t.bytes), .lst (nodesD t.kids)]), .yld 21] ⟨c, stk, H out⟩ K := by
 intro n
 induction n using Nat.strongRecOn with
 | _ n ih =>
 intro t hn hbig hg c stk out K hcl hlim hK0
 have hkl := kids_len t
 have h0 := hg t (by rw [T.all_eq]; exact List.mem_cons_self)
 have hdl := enc_le (t := t) (by omega)
 have hLm : out.length + (1 + (lenB (conN t)).length + conN t) ≤ LIM := by have := hlim; rw [List.length_append, encT_len] at this; exact this
 have hcn : conN t = t.bytes.length + (encsT t.kids).length := rfl
 have hct : t.sz < 101 ∧ t.sz ≤ 100 := ⟨by omega, hbig⟩
 refine ec (rs := [.tmp 4]) (n := 64) Tryz.func189 rfl rfl rfl ?_
 refine rg ΦTE_ok [0, 1] trivial ?_
 refine rd ΦTE_ok 12 [0, 1, 5] (first_ok h0) ?_
 refine rg ΦTE_ok [0, 1, 5, 21] trivial ?_
 refine cn ?_ ?_
 ·intro h; try exact na h
  all_goals
   have hc : t.cons = true := h
   refine rgL ΦTE_ok (first_ok h0) ?_
   refine rqB (n := 3) ΦTE_ok [0, 1, 45] trivial fun L hL => ?_
   repeat' first | refine lfC hL trivial fun K' hK => ?_ | with_reducible apply And.intro | exact sd | exact sde trivial | exact sdp trivial | refine stk trivial ?_ | fail
   refine step (b := [tagB t.cls t.tag true]) (out := out) (hcl.push rfl (by simp)) (by simp only [List.length_append, List.length_cons, List.length_nil]; omega) ?_
   refine rt (And.intro Int.toNat_natCast hct) ?_
   repeat' first | with_reducible apply And.intro | exact sd | exact sde trivial | exact sdp trivial | refine stk trivial ?_ | fail
   refine step (b := lenB (conN t)) (out := out ++ [tagB t.cls t.tag true]) (hcl.push rfl (by simp)) (by simp only [List.length_append, List.length_cons, List.length_nil]; omega) ?_
   refine rt (And.intro Int.toNat_natCast hct) ?_
   repeat' first | with_reducible apply And.intro | exact sd | exact sde trivial | exact sdp trivial | refine stk trivial ?_ | fail
   refine step (b := t.bytes) (out := (out ++ [tagB t.cls t.tag true]) ++ lenB (conN t)) (hcl.push rfl (by simp)) (by simp only [List.length_append, List.length_cons, List.length_nil]; omega) ?_
   refine rt (And.intro Int.toNat_natCast hct) ?_
   repeat' first | (refine lf hK trivial ?_; clear hK K') | with_reducible apply And.intro | exact sd | exact sde trivial | exact sdp trivial | refine stk trivial ?_ | fail
   all_goals
    refine cn ?_ ?_
    ·intro h; try exact na h
     all_goals
      refine rg ΦTE_ok [4] trivial ?_
      refine nx ?_
      refine rt trivial ?_
      rw [hAll]
      exact hK0
    ·intro h; try exact na h
     all_goals
      refine rg ΦTE_ok [0, 1, 50, 51] trivial ?_
      obtain ⟨o1, ho1⟩ : ∃ o1, o1 = ((out ++ [tagB t.cls t.tag true]) ++ lenB (conN t)) ++ t.bytes := ⟨_, rfl⟩
      have ho2 : o1.length = out.length + 1 + (lenB (conN t)).length + t.bytes.length := by rw [ho1]; simp only [List.length_append, List.length_cons, List.length_nil]
      rw [← ho1]
      refine nx ?_
      refine VC.loop (ι := Nat) (fun i => ⟨⟨64, [(0, .dat (.ptr [.int .i64 t.cls, .int .i64 t.tag, .bool t.cons, .lst (bytesD t.bytes), .lst (nodesD t.kids)])), (1, .yld 21), (50, .dat (.int .i64 (t.kids.length : Int))), (51, .dat (.int .i64 (i : Int)))], []⟩, c :: stk, H (o1 ++ encsT (t.kids.take i))⟩) (fun i => i ≤ t.kids.length) (fun i => t.kids.length - i) 0 (Nat.zero_le _) ?_ ?_
      ·refine Ent.into ?_ rfl rfl rfl (by show H o1 = _; rw [List.take_zero, encsT_nil, List.append_nil])
       simp -implicitDefEqProofs only [go_sem]; (try simp only [D.dat.injEq, Vm.Data.int.injEq, true_and, and_true, and_self, eq_self]); (try omega); (try ((repeat' apply And.intro) <;> first | omega | rfl))
      intro i hp
      refine rg ΦTE_ok [0, 1, 50, 51, 52] trivial ?_
      refine cn ?_ ?_
      ·intro h; try exact na h
       all_goals
        refine rg ΦTE_ok [0, 1, 6, 50, 51] trivial ?_
        have hi : i < t.kids.length := by omega
        have hna := nodesD_at hi
        have hmem := enc_mem hi
        refine rB ΦTE_ok [0, 1, 50, 51, 62] (nodesD_at hi) fun K' hK => ?_
        repeat' first | with_reducible apply And.intro | exact sd | exact sde (nodesD_at hi) | exact sdp (nodesD_at hi) | refine stk (nodesD_at hi) ?_ | fail
        refine ih (t.kids.getD i T.zero).sz (Nat.lt_of_lt_of_le (T.kid_sz (kid_mem' hi)) hn) (t.kids.getD i T.zero) (Nat.le_refl _) (Nat.le_trans (Nat.le_of_lt (T.kid_sz (kid_mem' hi))) hbig) (kid_good hg hi) _ _ (o1 ++ encsT (t.kids.take i)) _ (hcl.push rfl (by simp)) (by rw [List.length_append, List.length_append, ho2]; omega) ?_
        refine rt trivial ?_
        repeat' first | (refine lf hK (nodesD_at hi) ?_; clear hK K') | with_reducible apply And.intro | exact sd | exact sde (nodesD_at hi) | exact sdp (nodesD_at hi) | refine stk (nodesD_at hi) ?_ | fail
        all_goals
         refine cn ?_ ?_
         ·intro h; try exact na h
          all_goals
           refine rg ΦTE_ok [4] trivial ?_
           refine nx ?_
           refine rt trivial ?_
           rw [hAll]
           exact hK0
         ·intro h; try exact na h
          all_goals
           refine rgL ΦTE_ok trivial ?_
           refine nx ?_
           refine ⟨i + 1, (by omega), Ent.into ?_ rfl rfl rfl (by show H (o1 ++ encsT (t.kids.take i) ++ encT (t.kids.getD i T.zero)) = _; rw [encsT_next hi, List.append_assoc]), by omega⟩
           simp -implicitDefEqProofs only [go_sem]; (try simp (disch := omega) only [i64_in, tmodn, tdivn]); (try simp only [D.dat.injEq, Vm.Data.int.injEq, true_and, and_true, and_self, eq_self]); (try omega); (try ((repeat' apply And.intro) <;> first | omega | rfl))
      ·intro h; try exact na h
       all_goals
        have hAll : o1 ++ encsT (t.kids.take i) = out ++ encT t := by
         have : i = t.kids.length := by omega
         rw [this, List.take_length, ho1, encT_eq, hc]; simp
        refine rg ΦTE_ok [4] trivial ?_
        refine nx ?_
        refine rt trivial ?_
        rw [hAll]
        exact hK0
 ·intro h; try exact na h
  have hc : t.cons = false := by simpa using h
  all_goals
   refine rqB (n := 3) ΦTE_ok [0, 1, 45] trivial fun L hL => ?_
   repeat' first | refine lfC hL trivial fun K' hK => ?_ | with_reducible apply And.intro | exact sd | exact sde trivial | exact sdp trivial | refine stk trivial ?_ | fail
   refine step (b := [tagB t.cls t.tag false]) (out := out) (hcl.push rfl (by simp)) (by simp only [List.length_append, List.length_cons, List.length_nil]; omega) ?_
   refine rt (And.intro Int.toNat_natCast hct) ?_
   repeat' first | with_reducible apply And.intro | exact sd | exact sde trivial | exact sdp trivial | refine stk trivial ?_ | fail
   refine step (b := lenB (conN t)) (out := out ++ [tagB t.cls t.tag false]) (hcl.push rfl (by simp)) (by simp only [List.length_append, List.length_cons, List.length_nil]; omega) ?_
   refine rt (And.intro Int.toNat_natCast hct) ?_
   repeat' first | with_reducible apply And.intro | exact sd | exact sde trivial | exact sdp trivial | refine stk trivial ?_ | fail
   refine step (b := t.bytes) (out := (out ++ [tagB t.cls t.tag false]) ++ lenB (conN t)) (hcl.push rfl (by simp)) (by simp only [List.length_append, List.length_cons, List.length_nil]; omega) ?_
   refine rt (And.intro Int.toNat_natCast hct) ?_
   repeat' first | (refine lf hK trivial ?_; clear hK K') | with_reducible apply And.intro | exact sd | exact sde trivial | exact sdp trivial | refine stk trivial ?_ | fail
   all_goals
    refine cn ?_ ?_
    ·intro h; try exact na h
     all_goals
      refine rg ΦTE_ok [4] trivial ?_
      refine nx ?_
      refine rt trivial ?_
      rw [hAll]
      exact hK0
    ·intro h; try exact na h
     all_goals
      refine rg ΦTE_ok [0, 1, 50, 51] trivial ?_
      obtain ⟨o1, ho1⟩ : ∃ o1, o1 = ((out ++ [tagB t.cls t.tag false]) ++ lenB (conN t)) ++ t.bytes := ⟨_, rfl⟩
      have ho2 : o1.length = out.length + 1 + (lenB (conN t)).length + t.bytes.length := by rw [ho1]; simp only [List.length_append, List.length_cons, List.length_nil]
      rw [← ho1]
      refine nx ?_
      refine VC.loop (ι := Nat) (fun i => ⟨⟨64, [(0, .dat (.ptr [.int .i64 t.cls, .int .i64 t.tag, .bool t.cons, .lst (bytesD t.bytes), .lst (nodesD t.kids)])), (1, .yld 21), (50, .dat (.int .i64 (t.kids.length : Int))), (51, .dat (.int .i64 (i : Int)))], []⟩, c :: stk, H (o1 ++ encsT (t.kids.take i))⟩) (fun i => i ≤ t.kids.length) (fun i => t.kids.length - i) 0 (Nat.zero_le _) ?_ ?_
      ·refine Ent.into ?_ rfl rfl rfl (by show H o1 = _; rw [List.take_zero, encsT_nil, List.append_nil])
       simp -implicitDefEqProofs only [go_sem]; (try simp only [D.dat.injEq, Vm.Data.int.injEq, true_and, and_true, and_self, eq_self]); (try omega); (try ((repeat' apply And.intro) <;> first | omega | rfl))
      intro i hp
      refine rg ΦTE_ok [0, 1, 50, 51, 52] trivial ?_
      refine cn ?_ ?_
      ·intro h; try exact na h
       all_goals
        refine rg ΦTE_ok [0, 1, 6, 50, 51] trivial ?_
        have hi : i < t.kids.length := by omega
        have hna := nodesD_at hi
        have hmem := enc_mem hi
        refine rB ΦTE_ok [0, 1, 50, 51, 62] (nodesD_at hi) fun K' hK => ?_
        repeat' first | with_reducible apply And.intro | exact sd | exact sde (nodesD_at hi) | exact sdp (nodesD_at hi) | refine stk (nodesD_at hi) ?_ | fail
        refine ih (t.kids.getD i T.zero).sz (Nat.lt_of_lt_of_le (T.kid_sz (kid_mem' hi)) hn) (t.kids.getD i T.zero) (Nat.le_refl _) (Nat.le_trans (Nat.le_of_lt (T.kid_sz (kid_mem' hi))) hbig) (kid_good hg hi) _ _ (o1 ++ encsT (t.kids.take i)) _ (hcl.push rfl (by simp)) (by rw [List.length_append, List.length_append, ho2]; omega) ?_
        refine rt trivial ?_
        repeat' first | (refine lf hK (nodesD_at hi) ?_; clear hK K') | with_reducible apply And.intro | exact sd | exact sde (nodesD_at hi) | exact sdp (nodesD_at hi) | refine stk (nodesD_at hi) ?_ | fail
        all_goals
         refine cn ?_ ?_
         ·intro h; try exact na h
          all_goals
           refine rg ΦTE_ok [4] trivial ?_
           refine nx ?_
           refine rt trivial ?_
           rw [hAll]
           exact hK0
         ·intro h; try exact na h
          all_goals
           refine rgL ΦTE_ok trivial ?_
           refine nx ?_
           refine ⟨i + 1, (by omega), Ent.into ?_ rfl rfl rfl (by show H (o1 ++ encsT (t.kids.take i) ++ encT (t.kids.getD i T.zero)) = _; rw [encsT_next hi, List.append_assoc]), by omega⟩
           simp -implicitDefEqProofs only [go_sem]; (try simp (disch := omega) only [i64_in, tmodn, tdivn]); (try simp only [D.dat.injEq, Vm.Data.int.injEq, true_and, and_true, and_self, eq_self]); (try omega); (try ((repeat' apply And.intro) <;> first | omega | rfl))
      ·intro h; try exact na h
       all_goals
        have hAll : o1 ++ encsT (t.kids.take i) = out ++ encT t := by
         have : i = t.kids.length := by omega
         rw [this, List.take_length, ho1, encT_eq, hc]; simp
        refine rg ΦTE_ok [4] trivial ?_
        refine nx ?_
        refine rt trivial ?_
        rw [hAll]
        exact hK0
end Go.Proofs.YtpajpkbipagjpaaGreatDoor.Oc
namespace Go.Proofs.YtpajpkbipagjpaaGreatDoor.Oc
open Go Go.RowKit Go.Proofs.YtpajpkbipagjpaaGreatDoor.Vm Go.Proofs.YtpajpkbipagjpaaGreatDoor.Tr Go.IntWalk
set_option maxRecDepth 100000
set_option maxHeartbeats 4000000
noncomputable def ΦEB : Fns := tab []
theorem ΦEB_ok : Sound E ΦEB := sound_nil
@[go_sem] theorem ΦEB_r : ΦEB 189 = none ∧ ΦEB 140 = none ∧ ΦEB 188 = none := ⟨rfl, rfl, rfl⟩
@[go_sem] theorem ΦEB_c : callable Tryz.prog 189 = true ∧ callable Tryz.prog 140 = true ∧ callable Tryz.prog 188 = true := ⟨by kernel_rfl, by kernel_rfl, by kernel_rfl⟩
@[go_sem] noncomputable def dbytesF : PFn := PF [SPt] (fun (t : T) => (∀ x ∈ t.all, okN x) ∧ t.sz ≤ 100) (fun (t : T) => [.lst (bytesD (encT t))])
theorem dbytes_ok : Pure E 99 dbytesF := Pure.of_sig (rs := [.tmp 2]) (n := 15) Tryz.func99 rfl rfl rfl (Nat.le_of_ble_eq_true rfl) (by
 intro (t : T) hds
 have hal := enc_le (t := t) (by omega)
 refine st0 ?_
 refine rg ΦEB_ok [0, 4] trivial ?_
 refine rg ΦEB_ok [0, 3, 4] trivial ?_
 refine rB ΦEB_ok [3, 4, 6] trivial fun K' hK => ?_
 repeat' first | with_reducible apply And.intro | exact sd | exact sde trivial | exact sdp trivial | refine stk trivial ?_ | fail
 refine ec (rs := [.tmp 2]) (n := 4) Tryz.func140 rfl rfl rfl ?_
 refine rg ΦEB_ok [1] trivial ?_
 refine rg ΦEB_ok [2] trivial ?_
 refine nx ?_
 refine rt trivial ?_
 repeat' first | (refine lf hK trivial ?_; clear hK K') | with_reducible apply And.intro | exact sd | exact sde trivial | exact sdp trivial | refine stk trivial ?_ | fail
 all_goals
  refine nlc 1 0 3 5 1 ?_
  refine nx ?_
  refine re (rs := []) (n := 6) 20 21 Tryz.func188 rfl rfl rfl fun A B hA hB => ?_
  refine rBL ΦEB_ok  trivial fun K' hK => ?_
  repeat' first | with_reducible apply And.intro | exact sd | exact sde trivial | exact sdp trivial | refine stk trivial ?_ | fail
  refine VCcall.ro (st1 := ⟨_, _, (fun (out : List UInt8) => [(3, .arr 5 1 (bytesD out) 0), (21, .loop [(3, .ref 1 0), (4, .junk), (6, .fn (.func 188) [] [.ref 2 0])] 15 [7] A B .ready none), (20, .defer), (2, .cells [.dat (.ptr [.int .i64 t.cls, .int .i64 t.tag, .bool t.cons, .lst (bytesD t.bytes), .lst (nodesD t.kids)])] false), (1, .cells [.sl 3 0 out.length] false)]) []⟩) ⟨rfl, rfl, find_ro (by intro x hx; simp only [List.mem_cons, List.not_mem_nil, or_false] at hx; rcases hx with rfl | rfl | rfl | rfl | rfl <;> rfl) (by intro x hx; simp only [List.mem_cons, List.not_mem_nil, or_false] at hx; rcases hx with rfl | rfl | rfl | rfl | rfl <;> rfl)⟩ ?_
  refine tell_ok (H := fun (out : List UInt8) => [(3, .arr 5 1 (bytesD out) 0), (21, .loop [(3, .ref 1 0), (4, .junk), (6, .fn (.func 188) [] [.ref 2 0])] 15 [7] A B .ready none), (20, .defer), (2, .cells [.dat (.ptr [.int .i64 t.cls, .int .i64 t.tag, .bool t.cons, .lst (bytesD t.bytes), .lst (nodesD t.kids)])] false), (1, .cells [.sl 3 0 out.length] false)]) (LIM := 100) ?_ t.sz t (Nat.le_refl _) hds.2 hds.1 _ _ [] _ ⟨rfl, rfl, by simp, by simp [Vm.noMark]⟩ (by rw [List.nil_append]; omega) ?_
  ·intro b out c stk K hcl hb hK; rw [List.length_append] at hb; refine VCyield.ro ?_
   unfold Cln at hcl
   refine yd hA ?_
   refine rgL ΦEB_ok trivial ?_
   refine nx ?_
   refine yb hB ?_
   refine rg ΦEB_ok [3, 4, 10] trivial ?_
   refine cn ?_ ?_
   ·intro h; try exact na h
    all_goals
     refine nx ?_
     refine rt trivial ?_
     refine ⟨_, ⟨rfl, rfl, fun _ => rfl⟩, ?_⟩
     first
     | (have h0 : b = [] := List.eq_nil_of_length_eq_zero (by omega); rw [h0, List.append_nil] at hK; exact hK)
     | (rw [List.length_append] at hK; exact hK)
   ·intro h; try exact na h
    all_goals
     refine rgL ΦEB_ok hcl ?_
     refine nx ?_
     refine rt trivial ?_
     refine ⟨_, ⟨rfl, rfl, fun _ => rfl⟩, ?_⟩
     first
     | (have h0 : b = [] := List.eq_nil_of_length_eq_zero (by omega); rw [h0, List.append_nil] at hK; exact hK)
     | (rw [List.length_append] at hK; exact hK)
  rw [List.nil_append]
  refine rt trivial ?_
  repeat' first | (refine lfL hK trivial ?_; clear hK K') | with_reducible apply And.intro | exact sd | exact sde trivial | exact sdp trivial | refine stk trivial ?_ | fail
  all_goals
   refine nx ?_
   refine rt trivial ?_
   refine ya ?_
   refine rg ΦEB_ok [2] trivial ?_
   refine nx ?_
   refine pureK_r (pureS_one (l := 20) (by simp -implicitDefEqProofs only [go_sem]) ?_)
   first
   | exact fz trivial)
def noSet (t : T) : Prop := ∀ x ∈ t.all, ¬ (x.cls = 0 ∧ x.tag = 17)
theorem noSet_kid {t : T} (h : noSet t) {i : Nat} (hi : i < t.kids.length) : noSet (t.kids.getD i T.zero) := kid_good h hi
noncomputable def ΦSe : Fns := tab [(106, tisF)]
theorem ΦSe_ok : Sound E ΦSe := sound_cons (by kernel_rfl) tis_ok (sound_nil)
@[go_sem] theorem ΦSe_r : ΦSe 106 = some tisF := rfl
@[go_sem] noncomputable def dset0F : PFn := PF [SPt] (fun (t : T) => ¬ (t.cls = 0 ∧ t.tag = 17)) (fun (t : T) => [.bool false])
theorem dset0_ok : Pure E 136 dset0F := Pure.of_sig (rs := [.tmp 2]) (n := 7) Tryz.func136 rfl rfl rfl (Nat.le_of_ble_eq_true rfl) (by
 intro (t : T) hds
 refine st0 ?_
 refine rg ΦSe_ok [0] trivial ?_
 refine rg ΦSe_ok [2] trivial ?_
 refine fi trivial ?_
 trace_state
 simp_all)
@[go_sem] noncomputable def ordF (n : Nat) : PFn := PF [SPt] (fun (t : T) => t.sz < n ∧ t.sz ≤ 90000 ∧ noSet t) (fun (t : T) => [.bool true])
noncomputable def ΦOr (m : Nat) : Fns := tab [(136, dset0F), (98, ordF m)]
theorem ΦOr_ok {m : Nat} (h : Pure E 98 (ordF m)) : Sound E (ΦOr m) := sound_cons (by kernel_rfl) dset0_ok (sound_cons (by kernel_rfl) h sound_nil)
@[go_sem] theorem ΦOr_r (m : Nat) : ΦOr m 136 = some dset0F ∧ ΦOr m 98 = some (ordF m) := ⟨rfl, rfl⟩
theorem ord_ok (n : Nat) : Pure E 98 (ordF n) := by
 induction n using Nat.strongRecOn with
 | _ n ih =>
 exact Pure.of_sig (rs := [.tmp 2]) (n := 30) Tryz.func98 rfl rfl rfl (Nat.le_of_ble_eq_true rfl) (by
  intro (t : T) hds
  have hkl := kids_len t
  have h0 := hds.2.2 t (by rw [T.all_eq]; exact List.mem_cons_self)
  have hΦ := ΦOr_ok (ih (t.sz) (by omega))
  refine st0 ?_
  refine rg hΦ [0] trivial ?_
  refine rg hΦ [0, 8, 9] trivial ?_
  refine nx ?_
  refine VC.loopP (ι := Nat) [0, 8] (fun i => [(9, .dat (.int .i64 (i : Int)))]) (fun _ => []) (fun i => i ≤ t.kids.length) (fun i => t.kids.length - i) 0 (by omega) (et) ?_
  rintro i hp; try dsimp only at hp
  refine st0 ?_
  refine rg hΦ [0, 8, 9, 10] trivial ?_
  refine cn ?_ ?_
  ·intro h; try exact na h
   all_goals
    refine rg hΦ [0, 3, 8, 9] trivial ?_
    have hi : i < t.kids.length := by omega
    have hk := T.kid_sz (kid_mem' hi)
    have hg := noSet_kid hds.2.2 hi
    refine rg hΦ [0, 8, 9, 19] (And.intro hg (nodesD_at hi)) ?_
    refine cn ?_ ?_
    ·intro h; try exact na h
     all_goals
      refine rg hΦ [2] trivial ?_
      exact fz trivial
    ·intro h; try exact na h
     all_goals
      refine rgL hΦ trivial ?_
      refine nx ?_
      exact ⟨i + 1, by omega, et, by omega⟩
  ·intro h; try exact na h
   all_goals
    refine rB hΦ [2] trivial fun K' hK => ?_
    repeat' first | (refine lf hK trivial ?_; clear hK K') | with_reducible apply And.intro | refine sA trivial (fun _ => ?_) fun _ => ?_ | refine sAb trivial (fun _ => ?_) fun _ => ?_ | refine sAl trivial (fun g => ?_) fun g => ?_ | exact sd | exact sde trivial | exact sdp trivial | refine stk trivial ?_ | fail
    all_goals
     exact fz trivial)
@[go_sem] noncomputable def ord0F : PFn := ordF 90001
theorem ord0_ok : Pure E 98 ord0F := ord_ok 90001
theorem good_ok {t : T} (h : goodN t) : okN t := by
 obtain ⟨h0, h | h⟩ := h
 ·obtain ⟨_, _, h | h⟩ := h <;> exact ⟨by omega, by omega, by omega, by omega⟩
 ·obtain ⟨_, _, ⟨h, _⟩ | ⟨h, _⟩⟩ := h <;> exact ⟨by omega, by omega, by omega, by omega⟩
def smallT (t : T) : Prop := goodT t ∧ t.sz ≤ 100 ∧ noSet t
theorem small_ok {t : T} (h : smallT t) : ∀ x ∈ t.all, okN x := fun x hx => good_ok (h.1.1 x hx)
noncomputable def ΦEn : Fns := tab [(97, dsizeF), (98, ord0F), (99, dbytesF)]
theorem ΦEn_ok : Sound E ΦEn := sound_cons (by kernel_rfl) dsize_ok (sound_cons (by kernel_rfl) ord0_ok (sound_cons (by kernel_rfl) dbytes_ok (sound_nil)))
@[go_sem] theorem ΦEn_r : ΦEn 97 = some dsizeF ∧ ΦEn 98 = some ord0F ∧ ΦEn 99 = some dbytesF := ⟨rfl, rfl, rfl⟩
@[go_sem] noncomputable def encodeF : PFn := PF [ST] (fun (t : T) => smallT t) (fun (t : T) => [.lst (bytesD (encT t)), .int .i64 0])
theorem encode_ok : Pure E 37 encodeF := Pure.of_sig (rs := [.tmp 2, .tmp 3]) (n := 17) Tryz.func37 rfl rfl rfl (Nat.le_of_ble_eq_true rfl) (by
 intro (t : T) hds
 have hs := hds.2.1
 have hs2 := small_ok hds
 refine st0 ?_
 refine rg ΦEn_ok [1] (And.intro hds.1 (And.intro hds.2.2 (small_ok hds))) ?_
 refine rg ΦEn_ok [1, 5] (And.intro hds.1 (And.intro hds.2.2 (small_ok hds))) ?_
 refine rg ΦEn_ok [1, 5, 12] (And.intro hds.1 (And.intro hds.2.2 (small_ok hds))) ?_
 refine cn ?_ ?_
 ·exact fun h => na h
 intro h
 refine rg ΦEn_ok [1, 15] (And.intro hds.1 (And.intro hds.2.2 (small_ok hds))) ?_
 refine cn ?_ ?_
 ·exact fun h => na h
 intro h
 refine rg ΦEn_ok [2, 3] (And.intro hds.1 (And.intro hds.2.2 (small_ok hds))) ?_
 exact fz (And.intro hds.1 (And.intro hds.2.2 (small_ok hds))))
end Go.Proofs.YtpajpkbipagjpaaGreatDoor.Oc
namespace Go.Proofs
open Go.Shelf
def Tryz.lays169_ren : Go.Shelf.Ren := ⟨fun | 169 => 144 | n => n, fun | 70 => 194 | 9 => 9 | 0 => 0 | 72 => 196 | 37 => 22 | 127 => 246 | 3 => 3 | 5 => 5 | n => n, fun | n => n⟩
theorem Tryz.lays169 : Go.Proofs.Lays.n169 Tryz.prog Tryz.lays169_ren := {
 mixed := by kernel_rfl
 f169 := Tryz.func144.trans (congrArg some (by kernel_rfl))
 t0 := Tryz.underlying0
 a0 := Tryz.isAgg0
 z0 := Tryz.sizeOf0
 v0 := Tryz.zeroValue0
 t3 := Tryz.underlying3
 a3 := Tryz.isAgg3
 z3 := Tryz.sizeOf3
 v3 := Tryz.zeroValue3
 t9 := Tryz.underlying9
 a9 := Tryz.isAgg9
 z9 := Tryz.sizeOf9
 v9 := Tryz.zeroValue9
 t37 := Tryz.underlying22
 a37 := Tryz.isAgg22
 z37 := Tryz.sizeOf22
 v37 := Tryz.zeroValue22
 t70 := Tryz.underlying194
 a70 := Tryz.isAgg194
 z70 := Tryz.sizeOf194
 v70 := Tryz.zeroValue194
 t72 := Tryz.underlying196
 a72 := Tryz.isAgg196
 z72 := Tryz.sizeOf196
 v72 := Tryz.zeroValue196
 t127 := Tryz.underlying246
 a127 := Tryz.isAgg246
 z127 := Tryz.sizeOf246
 v127 := Tryz.zeroValue246 }
theorem Tryz.Builder_Extra_169 : Builder.Extra Tryz.prog Tryz.lays169_ren := {
 sizeBuilder := by kernel_rfl
 liesBuilder := by kernel_rfl
 t5 := Tryz.underlying5
 a5 := Tryz.isAgg5
 z5 := Tryz.sizeOf5
 v5 := Tryz.zeroValue5
 infoByte := by kernel_rfl
 cellsByte := by kernel_rfl
 sizeByte := by kernel_rfl
 neB5 := by decide }
open Go.RowKit in
theorem Tryz.Builder_String_any (B b : Nat) (l : List UInt8) (w : World) (h : Lib.IsBuilder 196 5 B b (Lib.byteCells l) w) (hBw : B ≤ w.heap.size) :
 Calls Tryz.prog 144 #[.pointer (some ⟨b, 0, none⟩)] w fun e w' => e = .returned (.string ⟨l.toArray⟩) ∧ Below B w w' := Any.Builder_String_any Tryz.lays169 Tryz.Builder_Extra_169 B b l w h hBw
end Go.Proofs
namespace Go.Proofs
open Go.Shelf Go.RowKit
def Tryz.lays167_ren : Go.Shelf.Ren := ⟨fun | 167 => 143 | 156 => 157 | 165 => 207 | 166 => 208 | 169 => 144 | 240 => 194 | 241 => 249 | 276 => 234 | 277 => 290 | n => n, fun | 31 => 111 | 9 => 9 | 3 => 3 | 4 => 4 | 0 => 0 | 20 => 20 | 72 => 196 | 76 => 259 | 70 => 194 | 37 => 22 | 75 => 198 | 127 => 246 | 164 => 285 | 5 => 5 | 80 => 200 | n => n, fun | n => n⟩
theorem Tryz.lays167 : Go.Proofs.Lays.n167 Tryz.prog Tryz.lays167_ren := {
 mixed := by kernel_rfl
 f167 := Tryz.func143.trans (congrArg some (by kernel_rfl))
 f240 := Tryz.func194.trans (congrArg some (by kernel_rfl))
 f276 := Tryz.func234.trans (congrArg some (by kernel_rfl))
 t0 := Tryz.underlying0
 a0 := Tryz.isAgg0
 z0 := Tryz.sizeOf0
 v0 := Tryz.zeroValue0
 t4 := Tryz.underlying4
 a4 := Tryz.isAgg4
 z4 := Tryz.sizeOf4
 v4 := Tryz.zeroValue4
 t5 := Tryz.underlying5
 a5 := Tryz.isAgg5
 z5 := Tryz.sizeOf5
 v5 := Tryz.zeroValue5
 t9 := Tryz.underlying9
 a9 := Tryz.isAgg9
 z9 := Tryz.sizeOf9
 v9 := Tryz.zeroValue9
 t20 := Tryz.underlying20
 a20 := Tryz.isAgg20
 z20 := Tryz.sizeOf20
 v20 := Tryz.zeroValue20
 t37 := Tryz.underlying22
 a37 := Tryz.isAgg22
 z37 := Tryz.sizeOf22
 v37 := Tryz.zeroValue22
 t70 := Tryz.underlying194
 a70 := Tryz.isAgg194
 z70 := Tryz.sizeOf194
 v70 := Tryz.zeroValue194
 t72 := Tryz.underlying196
 a72 := Tryz.isAgg196
 z72 := Tryz.sizeOf196
 v72 := Tryz.zeroValue196
 t75 := Tryz.underlying198
 a75 := Tryz.isAgg198
 z75 := Tryz.sizeOf198
 v75 := Tryz.zeroValue198
 t164 := Tryz.underlying285
 a164 := Tryz.isAgg285
 z164 := Tryz.sizeOf285
 v164 := Tryz.zeroValue285 }
theorem Tryz.Builder_Extra_167 : Builder.Extra Tryz.prog Tryz.lays167_ren := {
 sizeBuilder := by kernel_rfl
 liesBuilder := by kernel_rfl
 t5 := Tryz.underlying5
 a5 := Tryz.isAgg5
 z5 := Tryz.sizeOf5
 v5 := Tryz.zeroValue5
 infoByte := by kernel_rfl
 cellsByte := by kernel_rfl
 sizeByte := by kernel_rfl
 neB5 := by decide }
open Go.RowKit in
theorem Tryz.WriteByte (B b : Nat) (bs : List Value) (c : Int) (w : World) (h : Lib.IsBuilder 196 5 B b bs w) (hlen : bs.length + 1 ≤ 140737488355328) (hBw : B ≤ w.heap.size) :
 Calls Tryz.prog 143 #[.pointer (some ⟨b, 0, none⟩), .int .u8 c] w fun e w' => e = .returned .nilIface ∧ (Lib.BuilderAt 196 5 B b (.pointer (some ⟨b, 0, none⟩)) (bs ++ [.int .u8 c]) w' ∧ Below B w w') := Any.Builder_WriteByte Tryz.lays167 Tryz.Builder_Extra_167 B b bs c w h hlen hBw
def hexD (n : Nat) : UInt8 := ([48, 49, 50, 51, 52, 53, 54, 55, 56, 57, 97, 98, 99, 100, 101, 102] : List UInt8).getD n 0
def hexS : List UInt8 → List UInt8
 | [] => []
 | c :: r => hexD (c.toNat / 16) :: hexD (c.toNat % 16) :: hexS r
theorem hexS_app : ∀ (a b : List UInt8), hexS (a ++ b) = hexS a ++ hexS b
 | [], b => rfl
 | c :: a, b => by simp only [List.cons_append, hexS, hexS_app a b]
theorem hexS_len : ∀ (a : List UInt8), (hexS a).length = 2 * a.length
 | [] => rfl
 | c :: a => by simp only [hexS, List.length_cons, hexS_len a]; omega
theorem hexS_snoc {s : List UInt8} {k : Nat} (h : k < s.length) : hexS (s.take (k + 1)) = hexS (s.take k) ++ [hexD (s[k].toNat / 16)] ++ [hexD (s[k].toNat % 16)] := by
 rw [List.take_add_one, List.getElem?_eq_getElem h, Option.toList_some, hexS_app]
 simp [hexS]
def hexT : ByteArray := ⟨#[48, 49, 50, 51, 52, 53, 54, 55, 56, 57, 97, 98, 99, 100, 101, 102]⟩
theorem hexG {n : Nat} (h : n < hexT.size) : hexT[n]'h = hexD n := by
 have : ∀ n : Fin 16, hexT[n.val]'n.isLt = hexD n.val := by decide +kernel
 exact this ⟨n, h⟩
theorem hexU {p : Prop} (h : p) : Hid p := h
theorem byteBk (l : List UInt8) : (Lib.byteCells l).length = l.length := Lib.byteCells_length l
set_option maxHeartbeats 4000000 in
set_option maxRecDepth 1000000 in
theorem hex_calls (s : List UInt8) (b o c : Nat) (w : World) (hb : b < w.heap.size) (hl : s.length ≤ 1000000) (hc : ∀ j (h : j < s.length), w.cell? ⟨b, o + j, none⟩ = some (.int .u8 (s[j].toNat : Int))) :
 Calls Tryz.prog 101 #[.slice (some ⟨b, o, none⟩) s.length c] w fun e w' => e = .returned (.string ⟨(hexS s).toArray⟩) ∧ Below w.heap.size w w' := by
 have HC := hexU hc
 clear hc
 go_enter Tryz.func101, Tryz.ntmps101
 go_wp2
 go_loopw [8] (fun i wr => ∃ k : Nat, k ≤ s.length ∧ i = .int .i64 k ∧ Hid (Lib.IsBuilder 196 5 w.heap.size w.heap.size (Lib.byteCells (hexS (s.take k))) wr) ∧ Hid (Below w.heap.size w wr)) (fun i _ => s.length - (intOf i).toNat)
 case atStart => exact ⟨0, Nat.zero_le _, rfl, Lib.fresh_isBuilder 196 5 w, (Below.refl _ w).alloc (Nat.le_refl _) _⟩
 case round =>
  obtain ⟨k, hk, rfl, HB, HW⟩ := hrel
  have hsz : w.heap.size ≤ wr.heap.size := HW.out.size
  by_cases hlt : k < s.length
  ·have hx : wr.cell? ⟨b, o + k, none⟩ = some (.int .u8 (s[k].toNat : Int)) := (HW.out.cell hb).trans (HC.out k hlt)
   have hx0 : s[k].toNat < 256 := s[k].toNat_lt
   generalize hX : s[k].toNat = x at hx hx0
   have hbk := byteBk (hexS (s.take k))
   have hlen : (hexS (s.take k)).length ≤ 2000000 := by rw [hexS_len, List.length_take]; omega
   go_wp2_with fail
   rw [show (⟨#[48, 49, 50, 51, 52, 53, 54, 55, 56, 57, 97, 98, 99, 100, 101, 102]⟩ : ByteArray)[x / 16]'(show x / 16 < 16 by omega) = hexD (x / 16) from hexG _]
   refine (Tryz.WriteByte w.heap.size w.heap.size _ _ wr HB.out (by rw [hbk]; omega) hsz).mono ?_
   rintro e w2 ⟨rfl, h2, hb2⟩
   have HB2 := hexU h2
   have HW2 := hexU hb2
   have hsz2 : w.heap.size ≤ w2.heap.size := Nat.le_trans hsz hb2.size
   clear h2 hb2
   go_wp2_with fail
   rw [show (⟨#[48, 49, 50, 51, 52, 53, 54, 55, 56, 57, 97, 98, 99, 100, 101, 102]⟩ : ByteArray)[x % 16]'(show x % 16 < 16 by omega) = hexD (x % 16) from hexG _]
   refine (Tryz.WriteByte w.heap.size w.heap.size _ _ w2 (Or.inr HB2.out) (by rw [List.length_append, hbk]; simp; omega) hsz2).mono ?_
   rintro e w3 ⟨rfl, h3, hb3⟩
   have e3 : Lib.byteCells (hexS (s.take k)) ++ [Value.int .u8 (hexD (x / 16)).toNat] ++ [Value.int .u8 (hexD (x % 16)).toNat] = Lib.byteCells (hexS (s.take (k + 1))) := by
    rw [hexS_snoc hlt, hX, Lib.byteCells_append, Lib.byteCells_append]; rfl
   rw [e3] at h3
   have HB3 := hexU (Or.inr h3 : Lib.IsBuilder 196 5 w.heap.size w.heap.size _ w3)
   have HW3 := hexU ((HW.out.trans HW2.out).trans hb3)
   clear h3 hb3
   go_wp2
   exact ⟨⟨k + 1, by omega, by go_num, HB3, HW3⟩, by simp [intOf]; omega⟩
  ·obtain rfl : k = s.length := by omega
   have HB' := HB.out
   rw [List.take_length] at HB'
   have HB4 := hexU HB'
   clear HB'
   go_wp2_with fail
   refine (Tryz.Builder_String_any w.heap.size w.heap.size (hexS s) wr HB4.out hsz).mono ?_
   rintro e w2 ⟨rfl, hb2⟩
   have HW2 := hexU (HW.out.trans hb2)
   clear hb2
   go_wp2
   go_ret
   exact ⟨rfl, HW2.out⟩
end Go.Proofs
namespace Go.Proofs.YtpajpkbipagjpaaGreatDoor.Oc
open Go Go.RowKit Go.Proofs.YtpajpkbipagjpaaGreatDoor.Vm Go.Proofs.YtpajpkbipagjpaaGreatDoor.Tr Go.IntWalk
set_option maxRecDepth 100000
set_option maxHeartbeats 4000000
theorem RE.u8s {w : World} {J : Cset} : ∀ (l : List UInt8) (b o : Nat), RE w J 1 (bytesD l) b o → ∀ j (h : j < l.length), w.cell? ⟨b, o + j, none⟩ = some (.int .u8 (l[j].toNat : Int)) ∧ J b (o + j)
 | [], b, o, h, j, hj => by simp at hj
 | x :: l, b, o, h, j, hj => by
   simp only [bytesD, List.map_cons, RE, RC, RV] at h
   obtain ⟨_, ⟨⟨v, h1, h2, _, h3⟩, _⟩, hr⟩ := h
   cases j with
   | zero => exact ⟨by rw [Nat.add_zero, h1, h3]; rfl, h2⟩
   | succ j =>
     have := RE.u8s l b (o + 1) hr j (by simpa using hj)
     rw [show o + (j + 1) = o + 1 + j by omega]
     exact this
def hexA (x : List UInt8) : List Vm.Data := [.lst (bytesD x)]
theorem hexA_inj (x y : List UInt8) (h : hexA x = hexA y) : x = y := by simpa [hexA, bytesD_inj, Vm.Data.lst.injEq] using h
noncomputable def hexcF : PFn := PFn.of hexA (fun x => 0 < x.length ∧ x.length ≤ 1000000) (fun x => [.str (hexS x)])
@[go_sem] theorem hexc_pre (x : List UInt8) : hexcF.pre [.lst (bytesD x)] = (0 < x.length ∧ x.length ≤ 1000000) := PFn.of_pre hexA_inj x
@[go_sem] theorem hexc_res (x : List UInt8) : hexcF.res [.lst (bytesD x)] = [.str (hexS x)] := PFn.of_res hexA_inj x
theorem hexc_ok : Pure E 101 hexcF := by
 refine Pure.of_calls hexA_inj ?_
 rintro w J args s hJ hG hargs ⟨h0, hl⟩
 obtain ⟨v, rfl, h1⟩ := args1 hargs
 simp only [RV] at h1
 obtain ⟨a, n, c, rfl, hn, hc, hr⟩ := h1
 rw [bytesD_len] at hn
 subst hn
 rcases hr with hr | ⟨b, o, sz, rfl, hsz, hE⟩
 ·have := congrArg List.length hr
  rw [bytesD_len, List.length_nil] at this
  omega
 ·have hsz1 : sz = 1 := by
   cases s with
   | nil => simp at h0
   | cons x l => simp only [bytesD, List.map_cons, RE] at hE; simpa using hE.1.symm
  subst hsz1
  have hc' := RE.u8s s b o hE
  refine (hex_calls s b o c w (hJ _ _ (hc' 0 h0).2) hl fun j h => (hc' j h).1).mono ?_
  rintro e w' ⟨rfl, hB⟩
  exact ⟨_, rfl, hB, by simp only [retD, RVD, RV]⟩
end Go.Proofs.YtpajpkbipagjpaaGreatDoor.Oc
namespace Go.Proofs.YtpajpkbipagjpaaGreatDoor.Oc
open Go Go.RowKit Go.Proofs.YtpajpkbipagjpaaGreatDoor.Vm Go.Proofs.YtpajpkbipagjpaaGreatDoor.Tr Go.IntWalk
set_option maxRecDepth 100000
set_option maxHeartbeats 4000000
def rsaN (q : Int) : List UInt8 := [114, 115, 97] ++ (nameH q).drop 3
def signT (w q : Int) : T := if sizeH q = 0 then T.zero else if w = 1 then seqT [primT 6 (namedB (rsaN q)), primT 5 []] else if w = 2 then
 seqT [primT 6 (namedB [112, 115, 115]), seqT [inT 0 [hashT q true], inT 1 [seqT [primT 6 (namedB [109, 103, 102, 49]), hashT q true]], inT 2 [primT 2 (intB (sizeH q))]]] else T.zero
def signE (w q : Int) : Int := if sizeH q = 0 then 200 else if w = 1 then 0 else if w = 2 then 0 else 200
theorem sizeH_in (q : Int) : -9223372036854775808 ≤ sizeH q ∧ sizeH q < 9223372036854775808 := by unfold sizeH; (repeat' split) <;> omega
theorem nameH_len (q : Int) : (nameH q).length ≤ 6 ∧ (¬ sizeH q = 0 → (nameH q).length = 6) := by unfold nameH sizeH; (repeat' split) <;> simp_all
theorem hashT_sz (q : Int) (b : Bool) : (hashT q b).sz ≤ 300 := by
 have h1 := namedB_len (nameH q)
 unfold hashT
 split
 ·decide
 ·rw [sz_seq, T.szs_cons, sz_prim]
  cases b <;> simp only [if_true, Bool.false_eq_true, if_false, T.szs_nil, T.szs_cons, sz_prim, List.length_nil] <;> omega
theorem zeq : T.zero.sz = 5 := by decide
theorem rsaN_eq (q : Int) : 114 :: 115 :: 97 :: List.take (((nameH q).length : Int) - 3).toNat (List.drop (Int.toNat 3) (nameH q)) = rsaN q := by
 rw [List.take_of_length_le (by rw [List.length_drop]; omega)]; rfl
theorem sgz {q : Int} (h : ¬ (if sizeH q = 0 then 200 else 0 : Int) = 0) : sizeH q = 0 := by split at h <;> simp_all
theorem sgn {q : Int} (h : (if sizeH q = 0 then 200 else 0 : Int) = 0) : ¬ sizeH q = 0 := by split at h <;> simp_all
theorem signT_0 {w q : Int} (h : sizeH q = 0) : signT w q = T.zero ∧ signE w q = 200 := ⟨if_pos h, if_pos h⟩
theorem signT_1 {w q : Int} (h : ¬ sizeH q = 0) (h1 : w = 1) : signT w q = seqT [primT 6 (namedB (rsaN q)), primT 5 []] ∧ signE w q = 0 := ⟨by unfold signT; rw [if_neg h, if_pos h1], by unfold signE; rw [if_neg h, if_pos h1]⟩
theorem signT_2 {w q : Int} (h : ¬ sizeH q = 0) (h1 : ¬ w = 1) (h2 : w = 2) : signT w q = seqT [primT 6 (namedB [112, 115, 115]), seqT [inT 0 [hashT q true], inT 1 [seqT [primT 6 (namedB [109, 103, 102, 49]), hashT q true]], inT 2 [primT 2 (intB (sizeH q))]]] ∧ signE w q = 0 :=
 ⟨by unfold signT; rw [if_neg h, if_neg h1, if_pos h2], by unfold signE; rw [if_neg h, if_neg h1, if_pos h2]⟩
theorem signT_3 {w q : Int} (h : ¬ sizeH q = 0) (h1 : ¬ w = 1) (h2 : ¬ w = 2) : signT w q = T.zero ∧ signE w q = 200 := ⟨by unfold signT; rw [if_neg h, if_neg h1, if_neg h2], by unfold signE; rw [if_neg h, if_neg h1, if_neg h2]⟩
noncomputable def ΦSA : Fns := tab [(11, halgF), (60, mnameF), (58, sizeF), (59, cnamedF), (61, cprimF), (62, cseqF), (68, cinF), (67, tintF)]
theorem ΦSA_ok : Sound E ΦSA := sound_cons (by kernel_rfl) halg_ok (sound_cons (by kernel_rfl) mname_ok (sound_cons (by kernel_rfl) size_ok (sound_cons (by kernel_rfl) cnamed_ok (sound_cons (by kernel_rfl) cprim_ok (sound_cons (by kernel_rfl) cseq_ok (sound_cons (by kernel_rfl) cin_ok (sound_cons (by kernel_rfl) tint_ok (sound_nil))))))))
@[go_sem] theorem ΦSA_r : ΦSA 11 = some halgF ∧ ΦSA 60 = some mnameF ∧ ΦSA 58 = some sizeF ∧ ΦSA 59 = some cnamedF ∧ ΦSA 61 = some cprimF ∧ ΦSA 62 = some cseqF ∧ ΦSA 68 = some cinF ∧ ΦSA 67 = some tintF := ⟨rfl, rfl, rfl, rfl, rfl, rfl, rfl, rfl⟩
@[go_sem] noncomputable def salgF : PFn := PF [SI .i64, SI .i64] (fun (w : Int) (q : Int) => True) (fun (w : Int) (q : Int) => [nodeD (signT w q), .int .i64 (signE w q)])
theorem salg_ok : Pure E 13 salgF := Pure.of_sig (rs := [.cell 4 25, .tmp 5]) (n := 54) Tryz.func13 rfl rfl rfl (Nat.le_of_ble_eq_true rfl) (by
 intro (w : Int) (q : Int) hds
 have hs := sizeH_in q
 have hn := nameH_len q
 have hq := hashT_sz q true
 have hb1 := namedB_len (rsaN q)
 have hb2 := namedB_len [112, 115, 115]
 have hb3 := namedB_len [109, 103, 102, 49]
 have hi := intB_len (sizeH q)
 refine st0 ?_
 refine rg ΦSA_ok [0, 1, 4] szE ?_
 refine rg ΦSA_ok [0, 1, 4, 6, 7] szE ?_
 refine rg ΦSA_ok [0, 1, 4, 6, 7, 14] szE ?_
 refine cn ?_ ?_
 ·intro h; try exact nd h
  all_goals
   have hz := sgz (by assumption)
   have hy := And.intro (signT_0 (w := w) hz) (And.intro hz zeroE)
   refine rg ΦSA_ok [4, 5] szE ?_
   exact fz hy
 ·intro h; try exact nd h
  all_goals
   have hz := sgn (by assumption)
   have hl := hn.2 hz
   refine rg ΦSA_ok [0, 1, 4, 6, 19] szE ?_
   refine cn ?_ ?_
   ·intro h; try exact nd h
    all_goals
     have hr := rsaN_eq q
     have hy := signT_1 hz (by assumption)
     refine rg ΦSA_ok [4, 5] (And.intro hr szE) ?_
     exact fz hy
   ·intro h; try exact nd h
    all_goals
     refine rg ΦSA_ok [1, 4, 6, 30] szE ?_
     refine cn ?_ ?_
     ·intro h; try exact nd h
      all_goals
       have hy := signT_2 hz (by assumption) (by assumption)
       refine rg ΦSA_ok [4, 6, 8] szE ?_
       refine rd ΦSA_ok 17 [4, 5] szE ?_
       exact fz hy
     ·intro h; try exact nd h
      all_goals
       have hy := And.intro (signT_3 hz (by assumption) (by assumption)) zeroE
       refine rg ΦSA_ok [4, 5] szE ?_
       exact fz hy)
end Go.Proofs.YtpajpkbipagjpaaGreatDoor.Oc

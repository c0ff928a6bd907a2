/- What functions of the program, of its library and of the document compute: their contracts, and laws about what they compute (X08). No condition. -/
import Derived.Test.YtpajpkbipagjpaaGreatDoorX07
import Derived.Test.YtpajpkbipagjpaaGreatDoorX06
import Derived.Test.YtpajpkbipagjpaaGreatDoorX04
import Derived.Test.YtpajpkbipagjpaaGreatDoorX05
import Derived.Shelf.Spec.SlicesInsert
import Derived.Lib.AppendZerosOnto
import Derived.Laws.NewBlocks
import Derived.Test.YtpajpkbipagjpaaGreatDoorX02
set_option linter.unusedVariables false
set_option linter.unusedSimpArgs false
namespace Go.Proofs.YtpajpkbipagjpaaGreatDoor.Oc
open Go Go.RowKit Go.Proofs.YtpajpkbipagjpaaGreatDoor.Vm Go.Proofs.YtpajpkbipagjpaaGreatDoor.Tr Go.IntWalk
set_option maxRecDepth 100000
set_option maxHeartbeats 4000000
def mx : List Nat → Nat
 | [] => 0
 | x :: r => max x (mx r)
theorem mx_append (l : List Nat) (x : Nat) : mx (l ++ [x]) = max (mx l) x := by
 induction l with
 | nil => simp [mx]
 | cons a l ih => simp only [List.cons_append, mx, ih]; omega
theorem mx_one (a : List Nat) (h : 1 ≤ a.length) : mx (a.take 1) = a.getD 0 0 := by
 cases a with
 | nil => simp at h
 | cons x r => simp [mx]
theorem mx_succ (a : List Nat) (k : Nat) (h : k < a.length) : mx (a.take (k + 1)) = max (mx (a.take k)) (a.getD k 0) := by
 rw [List.take_add_one, List.getElem?_eq_getElem h, Option.toList_some, mx_append]
 simp [List.getD_eq_getElem?_getD, List.getElem?_eq_getElem h]
theorem mx_all (l : List Nat) (m : Nat) : mx l ≤ m ↔ ∀ x ∈ l, x ≤ m := by
 induction l with
 | nil => simp [mx]
 | cons a l ih => simp only [mx, List.mem_cons, forall_eq_or_imp, ← ih]; omega
theorem maxI (a b : Nat) : (if (a : Int) < (b : Int) then (b : Int) else (a : Int)) = ((max a b : Nat) : Int) := by split <;> omega
theorem mxE : (∀ (a : List Nat) (k : Nat), k < a.length → mx (a.take (k + 1)) = max (mx (a.take k)) (a.getD k 0)) ∧ (∀ a : List Nat, 1 ≤ a.length → mx (a.take 1) = a.getD 0 0) ∧ (∀ a b : Nat, (if (a : Int) < (b : Int) then (b : Int) else (a : Int)) = ((max a b : Nat) : Int)) ∧ ∀ a : List Nat, a.take a.length = a :=
 ⟨mx_succ, mx_one, maxI, fun _ => List.take_length⟩
@[go_sem] noncomputable def maxF : PFn := PF [SN] (fun (a : List Nat) => 1 ≤ a.length ∧ a.length ≤ 4611686018427387904) (fun (a : List Nat) => [.int .u64 (mx a : Int)])
theorem max_ok : Pure E 198 maxF := Pure.of_sig (rs := [.tmp 2]) (n := 25) Tryz.func198 rfl rfl rfl (Nat.le_of_ble_eq_true rfl) (by
 intro (a : List Nat) hds
 obtain ⟨hl, hl'⟩ := hds
 refine st0 ?_
 refine rg sound_nil [0] mxE ?_
 refine rg sound_nil [0, 7] mxE ?_
 refine cn ?_ ?_
 ·intro h; try exact nd h
  all_goals
   exfalso; omega
 ·intro h; try exact nd h
  all_goals
   refine rg sound_nil [0, 3] mxE ?_
   refine rg sound_nil [0, 3, 4] mxE ?_
   refine nx ?_
   refine VC.loopP (ι := Nat) [0] (fun i => [(3, .dat (.int .u64 (mx (a.take i) : Int))), (4, .dat (.int .i64 (i : Int)))]) (fun _ => []) (fun i => 1 ≤ i ∧ i ≤ a.length) (fun i => a.length - i) 1 (by omega) (ete mxE) ?_
   rintro i hp; try dsimp only at hp
   refine st0 ?_
   refine rg sound_nil [0, 3, 4, 15] mxE ?_
   refine cn ?_ ?_
   ·intro h; try exact nd h
    all_goals
     refine rgL sound_nil mxE ?_
     refine rgL sound_nil mxE ?_
     refine nx ?_
     exact ⟨i + 1, by omega, ete mxE, by omega⟩
   ·intro h; try exact nd h
    all_goals
     obtain rfl : i = a.length := by omega
     refine rg sound_nil [2] mxE ?_
     exact fz mxE)
end Go.Proofs.YtpajpkbipagjpaaGreatDoor.Oc
namespace Go.Proofs.YtpajpkbipagjpaaGreatDoor.Oc
open Go Go.RowKit Go.Proofs.YtpajpkbipagjpaaGreatDoor.Vm Go.Proofs.YtpajpkbipagjpaaGreatDoor.Tr Go.IntWalk
set_option maxRecDepth 100000
set_option maxHeartbeats 4000000
def may (l : List Nat) : Bool := decide (2 ≤ l.length ∧ l.length ≤ 20 ∧ l.getD 0 0 ≤ 2 ∧ (l.getD 0 0 < 2 → l.getD 1 0 < 40) ∧ mx l ≤ 9223372036854775807 ∧ l.getD 1 0 + 40 * l.getD 0 0 ≤ 9223372036854775807)
theorem may_yes (l : List Nat) (h : 2 ≤ l.length ∧ l.length ≤ 20 ∧ l.getD 0 0 ≤ 2 ∧ (l.getD 0 0 < 2 → l.getD 1 0 < 40) ∧ mx l ≤ 9223372036854775807 ∧ l.getD 1 0 + 40 * l.getD 0 0 ≤ 9223372036854775807) : may l = true := decide_eq_true h
theorem may_no (l : List Nat) (h : ¬ (2 ≤ l.length ∧ l.length ≤ 20 ∧ l.getD 0 0 ≤ 2 ∧ (l.getD 0 0 < 2 → l.getD 1 0 < 40) ∧ mx l ≤ 9223372036854775807 ∧ l.getD 1 0 + 40 * l.getD 0 0 ≤ 9223372036854775807)) : may l = false := decide_eq_false h
noncomputable def ΦM : Fns := tab [(198, maxF)]
theorem ΦM_ok : Sound E ΦM := sound_cons (by kernel_rfl) max_ok (sound_nil)
@[go_sem] theorem ΦM_r : ΦM 198 = some maxF := rfl
@[go_sem] noncomputable def checkF : PFn := PF [SN] (fun (l : List Nat) => l.length ≤ 4611686018427387904) (fun (l : List Nat) => [.int .i64 (if may l then 0 else 140)])
theorem check_ok : Pure E 149 checkF := Pure.of_sig (rs := [.tmp 2]) (n := 45) Tryz.func149 rfl rfl rfl (Nat.le_of_ble_eq_true rfl) (by
 intro (l : List Nat) hds
 refine st0 ?_
 refine rg ΦM_ok [0] trivial ?_
 refine rdB (n := 42) ΦM_ok [44] trivial fun L hL => ?_
 repeat' first | (refine lfd hL trivial ?_; clear hL L) | with_reducible apply And.intro | refine sA trivial (fun _ => ?_) fun _ => ?_ | refine sAb trivial (fun _ => ?_) fun _ => ?_ | refine sAl trivial (fun g => ?_) fun g => ?_ | exact sd | exact sde trivial | exact sdp trivial | refine stk trivial ?_ | fail
 all_goals
  refine cn ?_ ?_
  ·intro h; try exact nd h
   all_goals
    refine rg ΦM_ok [2] trivial ?_
    refine fi trivial ?_
    first | (rw [may_yes l (by omega)]; rfl) | (rw [may_no l (by omega)]; rfl)
  ·intro h; try exact nd h
   all_goals
    refine rg ΦM_ok [2] trivial ?_
    refine fi trivial ?_
    first | (rw [may_yes l (by omega)]; rfl) | (rw [may_no l (by omega)]; rfl))
end Go.Proofs.YtpajpkbipagjpaaGreatDoor.Oc
namespace Go.Proofs.YtpajpkbipagjpaaGreatDoor.Oc
open Go Go.RowKit Go.Proofs.YtpajpkbipagjpaaGreatDoor.Vm Go.Proofs.YtpajpkbipagjpaaGreatDoor.Tr Go.IntWalk
set_option maxRecDepth 100000
set_option maxHeartbeats 4000000
theorem sizes_take {h : Int} (h0 : 0 ≤ h) (h1 : h < 5) : List.take 1 (List.drop (h.toNat * 1) sizesD) = [.int .i64 (bitsH h)] := by
 have : h = 0 ∨ h = 1 ∨ h = 2 ∨ h = 3 ∨ h = 4 := by omega
 rcases this with rfl | rfl | rfl | rfl | rfl <;> rfl
theorem bits_out {q : Int} (h : q < 0 ∨ 5 ≤ q) : bitsH q = 0 := by unfold bitsH; (repeat' split) <;> omega
theorem sizeW (h : Int) : IntKind.i64.wrap ((bitsH h).tdiv 8) = sizeH h := by rw [bits_size]; unfold sizeH; (repeat' split) <;> rfl
@[go_sem] noncomputable def bitsF : PFn := PF [SI .i64] (fun (q : Int) => True) (fun (q : Int) => [.int .i64 (bitsH q)])
theorem bits_ok : Pure E 107 bitsF := Pure.of_sig (rs := [.tmp 2]) (n := 12) Tryz.func107 rfl rfl rfl (Nat.le_of_ble_eq_true rfl) (by
 intro (q : Int) hds
 refine st0 ?_
 refine rg sound_nil [0] (And.intro sizesD_len (fun (h : Int) (h0 : 0 ≤ h) (h1 : h < 5) => sizes_take h0 h1)) ?_
 refine rB sound_nil [0, 8] (And.intro sizesD_len (fun (h : Int) (h0 : 0 ≤ h) (h1 : h < 5) => sizes_take h0 h1)) fun K' hK => ?_
 repeat' first | (refine lf hK (And.intro sizesD_len (fun (h : Int) (h0 : 0 ≤ h) (h1 : h < 5) => sizes_take h0 h1)) ?_; clear hK K') | with_reducible apply And.intro | refine sA (And.intro sizesD_len (fun (h : Int) (h0 : 0 ≤ h) (h1 : h < 5) => sizes_take h0 h1)) (fun _ => ?_) fun _ => ?_ | refine sAb (And.intro sizesD_len (fun (h : Int) (h0 : 0 ≤ h) (h1 : h < 5) => sizes_take h0 h1)) (fun _ => ?_) fun _ => ?_ | refine sAl (And.intro sizesD_len (fun (h : Int) (h0 : 0 ≤ h) (h1 : h < 5) => sizes_take h0 h1)) (fun g => ?_) fun g => ?_ | exact sd | exact sde (And.intro sizesD_len (fun (h : Int) (h0 : 0 ≤ h) (h1 : h < 5) => sizes_take h0 h1)) | exact sdp (And.intro sizesD_len (fun (h : Int) (h0 : 0 ≤ h) (h1 : h < 5) => sizes_take h0 h1)) | refine stk (And.intro sizesD_len (fun (h : Int) (h0 : 0 ≤ h) (h1 : h < 5) => sizes_take h0 h1)) ?_ | fail
 all_goals
  refine cn ?_ ?_
  ·intro h; try exact nd h
   all_goals
    have hb0 := bits_out (q := q) (by omega)
    refine rg sound_nil [2] (And.intro sizesD_len (fun (h : Int) (h0 : 0 ≤ h) (h1 : h < 5) => sizes_take h0 h1)) ?_
    exact fz hb0
  ·intro h; try exact nd h
   all_goals
    have hb0 := True.intro
    refine rg sound_nil [2] (And.intro sizesD_len (fun (h : Int) (h0 : 0 ≤ h) (h1 : h < 5) => sizes_take h0 h1)) ?_
    exact fz hb0)
noncomputable def ΦSI : Fns := tab [(107, bitsF)]
theorem ΦSI_ok : Sound E ΦSI := sound_cons (by kernel_rfl) bits_ok (sound_nil)
@[go_sem] theorem ΦSI_r : ΦSI 107 = some bitsF := rfl
@[go_sem] noncomputable def sizeF : PFn := PF [SI .i64] (fun (q : Int) => True) (fun (q : Int) => [.int .i64 (sizeH q)])
theorem size_ok : Pure E 58 sizeF := Pure.of_sig (rs := [.tmp 2]) (n := 6) Tryz.func58 rfl rfl rfl (Nat.le_of_ble_eq_true rfl) (by
 intro (q : Int) hds
 refine st0 ?_
 refine rg ΦSI_ok [0] sizeW ?_
 refine rg ΦSI_ok [2] sizeW ?_
 exact fz sizeW)
def nameH (h : Int) : List UInt8 := if h = 1 then [115, 104, 97, 50, 50, 52] else if h = 2 then [115, 104, 97, 50, 53, 54] else if h = 3 then [115, 104, 97, 51, 56, 52] else if h = 4 then [115, 104, 97, 53, 49, 50] else []
theorem nameH_of (h : Int) (h1 : ¬ sizeH h = 0) : 115 :: 104 :: 97 :: Lib.decDigits (bitsH h).toNat = nameH h ∧ (0 ≤ bitsH h ∧ bitsH h ≤ 1000) ∧ (Lib.decDigits (bitsH h).toNat).length = 3 := by
 have hh : h = 1 ∨ h = 2 ∨ h = 3 ∨ h = 4 := by unfold sizeH at h1; (repeat' split at h1) <;> omega
 rcases hh with rfl | rfl | rfl | rfl <;> decide +kernel
theorem nameH_no (h : Int) (h1 : sizeH h = 0) : nameH h = [] := by
 unfold sizeH at h1; unfold nameH; (repeat' split) <;> simp_all
@[go_sem] noncomputable def itozF : PFn := PF [SI .i64] (fun (x : Int) => 0 ≤ x ∧ x ≤ 9223372036854775807) (fun (x : Int) => [.str (Lib.decDigits x.toNat)])
theorem itoz_ok : Pure E 108 itozF := Pure.of_pure itoa_ok (by
 intro (x : Int) hx
 obtain ⟨n, rfl⟩ := Int.eq_ofNat_of_zero_le hx.1
 exact ⟨(itoa_pre n).mpr (by omega), itoa_res n⟩)
noncomputable def ΦNM : Fns := tab [(107, bitsF), (58, sizeF), (108, itozF)]
theorem ΦNM_ok : Sound E ΦNM := sound_cons (by kernel_rfl) bits_ok (sound_cons (by kernel_rfl) size_ok (sound_cons (by kernel_rfl) itoz_ok (sound_nil)))
@[go_sem] theorem ΦNM_r : ΦNM 107 = some bitsF ∧ ΦNM 58 = some sizeF ∧ ΦNM 108 = some itozF := ⟨rfl, rfl, rfl⟩
@[go_sem] noncomputable def mnameF : PFn := PF [SI .i64] (fun (q : Int) => True) (fun (q : Int) => [.str (nameH q)])
theorem mname_ok : Pure E 60 mnameF := Pure.of_sig (rs := [.tmp 2]) (n := 10) Tryz.func60 rfl rfl rfl (Nat.le_of_ble_eq_true rfl) (by
 intro (q : Int) hds
 refine st0 ?_
 refine rg ΦNM_ok [0] trivial ?_
 refine rg ΦNM_ok [0, 5] trivial ?_
 refine cn ?_ ?_
 ·intro h; try exact nd h
  all_goals
   have hn := nameH_no q (by assumption)
   refine rg ΦNM_ok [2] trivial ?_
   exact fz hn
 ·intro h; try exact nd h
  all_goals
   obtain ⟨hn, hc, hl⟩ := nameH_of q (by assumption)
   refine rg ΦNM_ok [2] trivial ?_
   exact fz hn)
end Go.Proofs.YtpajpkbipagjpaaGreatDoor.Oc
namespace Go.Proofs.YtpajpkbipagjpaaGreatDoor.Oc
open Go Go.RowKit Go.Proofs.YtpajpkbipagjpaaGreatDoor.Vm Go.Proofs.YtpajpkbipagjpaaGreatDoor.Tr Go.IntWalk
set_option maxRecDepth 100000
set_option maxHeartbeats 4000000
def namedH (s : List UInt8) : Int := if nameH 1 = s then 1 else if nameH 2 = s then 2 else if nameH 3 = s then 3 else if nameH 4 = s then 4 else 0
end Go.Proofs.YtpajpkbipagjpaaGreatDoor.Oc
namespace Go.Proofs.YtpajpkbipagjpaaGreatDoor.Oc
open Go Go.RowKit Go.Proofs.YtpajpkbipagjpaaGreatDoor.Vm Go.Proofs.YtpajpkbipagjpaaGreatDoor.Tr Go.IntWalk
set_option maxRecDepth 100000
set_option maxHeartbeats 4000000
def grp (n j : Nat) : List UInt8 := if j < 9 ∧ n / 2 ^ (63 - 7 * j) = 0 then [] else [UInt8.ofNat (n / 2 ^ (63 - 7 * j) % 128 + if j = 9 then 0 else 128)]
def encTo (n j : Nat) : List UInt8 := (List.range j).flatMap (grp n)
def enc1 (n : Nat) : List UInt8 := encTo n 10
theorem encTo_succ (n j : Nat) : encTo n (j + 1) = encTo n j ++ grp n j := by simp [encTo, List.range_succ]
theorem encTo_zero (n : Nat) : encTo n 0 = [] := rfl
theorem grp_skip {n j : Nat} (h : j < 9) (h' : n / 2 ^ (63 - 7 * j) = 0) : grp n j = [] := if_pos ⟨h, h'⟩
theorem grp_more {n j : Nat} (h : j < 9) (h' : ¬ n / 2 ^ (63 - 7 * j) = 0) : grp n j = [UInt8.ofNat (n / 2 ^ (63 - 7 * j) % 128 + 128)] := by
 unfold grp; rw [if_neg (fun e => h' e.2), if_neg (by omega)]
theorem grp_last {n j : Nat} (h : j = 9) : grp n j = [UInt8.ofNat (n / 2 ^ (63 - 7 * j) % 128)] := by
 unfold grp; rw [if_neg (by omega), if_pos h]; rfl
theorem shr_at (n j : Nat) (h : j ≤ 9) : (n : Int).fdiv (2 ^ min (63 - 7 * (j : Int)).toNat 64) = ((n / 2 ^ (63 - 7 * j) : Nat) : Int) := by
 have e : min (63 - 7 * (j : Int)).toNat 64 = 63 - 7 * j := by omega
 rw [e, Int.fdiv_eq_ediv_of_nonneg _ (by exact Int.le_of_lt (Int.pow_pos (by decide)))]
 simp
theorem and127 : ∀ b : Fin 256, bits .and .u8 (b.val : Int) 127 = ((b.val % 128 : Nat) : Int) := by decide +kernel
theorem or128 : ∀ b : Fin 128, bits .or .u8 (b.val : Int) 128 = ((b.val + 128 : Nat) : Int) := by decide +kernel
theorem low7 (x : Nat) : bits .and .u8 (IntKind.u8.wrap (x : Int)) 127 = ((x % 128 : Nat) : Int) := by
 have h := and127 ⟨x % 256, Nat.mod_lt _ (by decide)⟩
 rw [show IntKind.u8.wrap (x : Int) = ((x % 256 : Nat) : Int) by rw [IntKind.wrap_u8]; omega]
 rw [h]
 simp only [Int.natCast_inj]; omega
theorem high (x : Nat) : bits .or .u8 ((x % 128 : Nat) : Int) 128 = ((x % 128 + 128 : Nat) : Int) := or128 ⟨x % 128, Nat.mod_lt _ (by decide)⟩
theorem byte_snoc0 (l : List UInt8) (x : Nat) (h : x < 256) : bytesD l ++ [[.int .u8 (x : Int)]] = bytesD (l ++ [UInt8.ofNat x]) := by
 rw [← bytesD_snoc, UInt8.toNat_ofNat', Nat.mod_eq_of_lt h]
theorem byte_snoc7 (l : List UInt8) (x : Nat) : bytesD l ++ [[.int .u8 ((x % 128 : Nat) : Int)]] = bytesD (l ++ [UInt8.ofNat (x % 128)]) := byte_snoc0 l _ (by have := Nat.mod_lt x (show 0 < 128 by decide); omega)
theorem byte_snoc8 (l : List UInt8) (x : Nat) : bytesD l ++ [[.int .u8 ((x % 128 + 128 : Nat) : Int)]] = bytesD (l ++ [UInt8.ofNat (x % 128 + 128)]) := byte_snoc0 l _ (by have := Nat.mod_lt x (show 0 < 128 by decide); omega)
theorem grp_len (n j : Nat) : (grp n j).length ≤ 1 := by unfold grp; split <;> simp
theorem encTo_len (n j : Nat) : (encTo n j).length ≤ j := by
 induction j with
 | zero => simp [encTo]
 | succ j ih => rw [encTo_succ, List.length_append]; have := grp_len n j; omega
def num (l : List Nat) (k : Nat) : Nat := if k = 0 then l.getD 1 0 + 40 * l.getD 0 0 else l.getD (k + 1) 0
theorem num_zero (l : List Nat) (k : Nat) (h : k = 0) : num l k = l.getD (k + 1) 0 + 40 * l.getD 0 0 := by subst h; rfl
theorem num_pos (l : List Nat) (k : Nat) (h : ¬ k = 0) : num l k = l.getD (k + 1) 0 := if_neg h
@[go_sem] theorem getD_drop1 (l : List Nat) (k : Nat) : (l.drop 1).getD k 0 = l.getD (k + 1) 0 := by simp [List.getD_eq_getElem?_getD, Nat.add_comm]
def encN (l : List Nat) (k : Nat) : List UInt8 := (List.range k).flatMap fun i => enc1 (num l i)
theorem encN_len (l : List Nat) (k : Nat) : (encN l k).length ≤ 10 * k := by
 induction k with
 | zero => simp [encN]
 | succ k ih =>
   have e : encN l (k + 1) = encN l k ++ enc1 (num l k) := by simp [encN, List.range_succ]
   rw [e, List.length_append]; have := encTo_len (num l k) 10; unfold enc1; omega
def enc (l : List Nat) : List UInt8 := encN l (l.length - 1)
def encO (l : List Nat) : List UInt8 := if may l then enc l else []
theorem encN_succ (l : List Nat) (k : Nat) : encN l (k + 1) = encN l k ++ enc1 (num l k) := by simp [encN, List.range_succ]
theorem encO_len (l : List Nat) : (encO l).length ≤ 200 := by
 unfold encO
 split
 ·rename_i h
  have := of_decide_eq_true h
  have := encN_len l (l.length - 1)
  unfold enc; omega
 ·simp
theorem ocE : (∀ n j : Nat, j ≤ 9 → (n : Int).fdiv (2 ^ min (63 - 7 * (j : Int)).toNat 64) = ((n / 2 ^ (63 - 7 * j) : Nat) : Int)) ∧ (∀ x : Nat, bits .and .u8 (IntKind.u8.wrap (x : Int)) 127 = ((x % 128 : Nat) : Int)) ∧ (∀ x : Nat, bits .or .u8 ((x % 128 : Nat) : Int) 128 = ((x % 128 + 128 : Nat) : Int)) ∧ (∀ (l : List Nat) (k : Nat), (l.drop 1).getD k 0 = l.getD (k + 1) 0) ∧ (∀ l : List Nat, List.take ((l.length : Int) - 1).toNat (List.drop 1 l) = List.drop 1 l) := ⟨shr_at, low7, high, getD_drop1, fun l => List.take_of_length_le (by rw [List.length_drop]; omega)⟩
noncomputable def ΦBY : Fns := tab [(149, checkF)]
theorem ΦBY_ok : Sound E ΦBY := sound_cons (by kernel_rfl) check_ok (sound_nil)
@[go_sem] theorem ΦBY_r : ΦBY 149 = some checkF ∧ ΦBY 150 = none ∧ ΦBY 199 = none := ⟨rfl, rfl, rfl⟩
@[go_sem] theorem ΦBY_c : callable Tryz.prog 150 = true ∧ callable Tryz.prog 199 = true := ⟨by kernel_rfl, by kernel_rfl⟩
theorem grp_skipF {n j : Nat} (h : j < 9) (h' : (n : Int).fdiv (2 ^ min (63 - 7 * (j : Int)).toNat 64) = 0) : grp n j = [] := by
 rw [shr_at n j (by omega)] at h'; exact grp_skip h (Int.ofNat.inj h')
theorem grp_moreF {n j : Nat} (h : j < 9) (h' : ¬ (n : Int).fdiv (2 ^ min (63 - 7 * (j : Int)).toNat 64) = 0) : grp n j = [UInt8.ofNat (n / 2 ^ (63 - 7 * j) % 128 + 128)] := by
 rw [shr_at n j (by omega)] at h'; exact grp_more h (fun e => h' (by rw [e]; rfl))
theorem num_wrap {l : List Nat} {k : Nat} (h : k = 0) (h2 : l.getD 1 0 + 40 * l.getD 0 0 ≤ 9223372036854775807) : IntKind.u64.wrap ((l.getD (k + 1) 0 : Int) + 40 * (l.getD 0 0 : Int)) = ((num l k : Nat) : Int) := by
 subst h; rw [num_zero l 0 rfl, Nat.zero_add, u64_in _ (by omega)]; omega
theorem encO_yes {l : List Nat} (h : may l = true) : encO l = enc l := if_pos h
theorem may_not {p : Bool} (h : ¬ (if p = true then 0 else 140 : Int) = 0) : p = false := by cases p <;> simp_all
theorem may_is {p : Bool} (h : (if p = true then 0 else 140 : Int) = 0) : p = true := by cases p <;> simp_all
@[go_sem] noncomputable def bytesO : OFn := OF [SN] (fun (l : List Nat) => l.length ≤ 4611686018427387904) 5 1 (fun (l : List Nat) => bytesD (encO l)) (fun (l : List Nat) => [.int .i64 (if may l then 0 else 140)])
theorem bytes_own : Own E 105 bytesO := Own.of_sig (rs := [.tmp 2, .tmp 3]) (n := 45) Tryz.func105 rfl rfl rfl (Nat.le_of_ble_eq_true rfl) (by
 intro (l : List Nat) hds
 refine st0 ?_
 refine rg ΦBY_ok [0, 8, 9] ocE ?_
 refine rg ΦBY_ok [0, 4, 8, 9] ocE ?_
 refine rg ΦBY_ok [0, 4, 8, 9, 13] ocE ?_
 refine cn ?_ ?_
 ·intro h; try exact nd h
  all_goals
   have hm : may l = false := may_not (by assumption)
   have eo : encO l = [] := by simp [encO, hm]
   refine rg ΦBY_ok [2, 3] ocE ?_
   exact fz (And.intro hm eo)
 ·intro h; try exact nd h
  all_goals
   have hm : may l = true := may_is (by assumption)
   have hml := of_decide_eq_true hm
   have hl1 : (List.drop 1 l).length = l.length - 1 := List.length_drop
   refine rg ΦBY_ok [0, 5, 8, 9] ocE ?_
   refine rg ΦBY_ok [0, 5, 8, 9, 16, 17, 18] ocE ?_
   refine nx ?_
   refine VC.loopM (ι := Nat) [0, 5, 16, 17] (fun k => [(18, .dat (.int .i64 (k : Int)))]) marks (fun k => (1, .cells [.sl 2 0 (encN l k).length] false) :: (2, .arr 5 1 (bytesD (encN l k)) 0) :: marksH k) (fun k => k ≤ l.length - 1) (fun k => l.length - 1 - k) 0 (Nat.zero_le _) ?_ ?_
   ·refine (Ent.nilC 1 0 2 5 1 (cs := [.nilsl]) (fz := false) (by decide) (by simp -implicitDefEqProofs only [go_sem]) (by decide) (by simp -implicitDefEqProofs only [go_sem]) rfl).trans (Ent.to rfl rfl rfl ?_ ?_)
    ·simp -implicitDefEqProofs only [go_sem]; (try simp only [D.dat.injEq, Vm.Data.int.injEq, true_and, and_true, and_self, eq_self]); (try omega); (try ((repeat' apply And.intro) <;> first | omega | rfl))
    ·(repeat' (first | exact all_nil | exact marks_tail [] rfl (by simp) | (refine all_cons ?_ ?_))) <;> (simp -implicitDefEqProofs only [go_sem]; (try rfl); skip)
   intro k hk; (try dsimp only at hk)
   refine st0 ?_
   refine rg ΦBY_ok [0, 5, 8, 9, 16, 17, 18, 19] ocE ?_
   refine cn ?_ ?_
   ·intro h; try exact nd h
    all_goals
     refine rg ΦBY_ok [0, 5, 6, 7, 8, 9, 16, 17, 18] ocE ?_
     refine rg ΦBY_ok [0, 5, 7, 8, 9, 16, 17, 18, 24] ocE ?_
     refine cn ?_ ?_
     ·intro h; try exact nd h
      all_goals
       refine rgL ΦBY_ok ocE ?_
       first
       | rw [num_wrap (by omega) (by omega)]
       | rw [show (l.getD (k + 1) 0 : Int) = ((num l k : Nat) : Int) by rw [num_pos l k (by omega)]]
       refine rB ΦBY_ok [0, 5, 8, 9, 16, 17, 18, 32] ocE fun K' hK => ?_
       repeat' first | with_reducible apply And.intro | exact sd | exact sde ocE | exact sdp ocE | refine stk ocE ?_ | fail
       refine ec (rs := [.tmp 2]) (n := 4) Tryz.func150 rfl rfl rfl ?_
       refine rg ΦBY_ok [1] trivial ?_
       refine rg ΦBY_ok [2] trivial ?_
       refine nx ?_
       refine rt ocE ?_
       repeat' first | (refine lf hK ocE ?_; clear hK K') | with_reducible apply And.intro | exact sd | exact sde ocE | exact sdp ocE | refine stk ocE ?_ | fail
       all_goals
        refine nx ?_
        refine re (rs := []) (n := 26) (100 + k) 4 Tryz.func199 rfl rfl rfl fun A B hA hB => ?_
        refine rg ΦBY_ok [0, 1, 3] ocE ?_
        refine nx ?_
        refine VC.loopS (ι := Nat) [0, 1] (fun j => [(3, .dat (.int .i64 (63 - 7 * (j : Int))))]) (fun j => [(1, .cells [.sl 2 0 (encN l k ++ encTo (num l k) j).length] false), (2, .arr 5 1 (bytesD (encN l k ++ encTo (num l k) j)) 0)]) (fun j => j ≤ 10) (fun j => 10 - j) 0 (Nat.zero_le _) ?_ ?_
        ·refine Ent.to rfl rfl rfl ?_ ?_
         ·simp -implicitDefEqProofs only [go_sem]; (try simp only [D.dat.injEq, Vm.Data.int.injEq, true_and, and_true, and_self, eq_self]); (try omega); (try ((repeat' apply And.intro) <;> first | omega | rfl))
         ·apply all_at
          ·simp -implicitDefEqProofs only [go_sem]; simp only [encTo_zero, List.append_nil]; exact rfl
          ·(repeat' (first | exact all_nil | exact marks_tail [_, _, _, _, _] rfl (by simp) | (refine all_cons ?_ ?_))) <;> (simp -implicitDefEqProofs only [go_sem]; (try rfl); skip)
        intro j hj; (try dsimp only at hj)
        refine st0 ?_
        have hb : (encN l k ++ encTo (num l k) j).length ≤ 300 := by
         have := encN_len l k; have := encTo_len (num l k) j; rw [List.length_append]; omega
        refine rg ΦBY_ok [0, 1, 3, 5] ocE ?_
        refine cn ?_ ?_
        ·intro h; try exact nd h
         all_goals
          refine rB ΦBY_ok [0, 1, 3, 15] ocE fun K' hK => ?_
          repeat' first | (refine lf hK ocE ?_; clear hK K') | with_reducible apply And.intro | refine sA ocE (fun _ => ?_) fun _ => ?_ | refine sAb ocE (fun _ => ?_) fun _ => ?_ | refine sAl ocE (fun g => ?_) fun g => ?_ | exact sd | exact sde ocE | exact sdp ocE | refine stk ocE ?_ | fail
          all_goals
           refine cn ?_ ?_
           ·intro h; try exact nd h
            all_goals
             refine rgL ΦBY_ok ocE ?_
             refine nx ?_
             have eg : encTo (num l k) (j + 1) = encTo (num l k) j ++ grp (num l k) j := encTo_succ _ _
             have es := shr_at (num l k) j (by omega)
             first | rw [grp_skipF (by omega) (by assumption), List.append_nil] at eg | rw [grp_moreF (by omega) (by assumption)] at eg | rw [grp_last (by omega)] at eg
             refine ⟨j + 1, by omega, Ent.to rfl rfl rfl ?_ ?_, by omega⟩
             ·simp -implicitDefEqProofs only [go_sem]; (try simp (disch := omega) only [i64_in, tmodn, tdivn]); (try simp only [D.dat.injEq, Vm.Data.int.injEq, true_and, and_true, and_self, eq_self]); (try omega); (try ((repeat' apply And.intro) <;> first | omega | rfl))
             ·apply all_at
              ·simp -implicitDefEqProofs only [go_sem]; (try simp only [eg, es, low7, high]); first | done | exact rfl
              ·(repeat' (first | exact all_nil | exact marks_tail [_, _, _, _, _] rfl (by simp) | exact marks_tail [_, _, _, _, _, _] rfl (by simp) | (refine all_cons ?_ ?_))) <;> (simp -implicitDefEqProofs only [go_sem]; (try rfl); (try simp only [es, low7, high]); try first | rfl | (simp [List.length_append, Nat.add_assoc]; done) | (rw [byte_snoc8, List.append_assoc]; done) | (rw [byte_snoc7, List.append_assoc]; done))
           ·intro h; try exact nd h
            all_goals
             refine rB ΦBY_ok [0, 1, 3, 25] ocE fun K' hK => ?_
             repeat' first | with_reducible apply And.intro | exact sd | exact sde ocE | exact sdp ocE | refine stk ocE ?_ | fail
             refine yd hA ?_
             refine rg ΦBY_ok [5, 8, 34] ocE ?_
             refine rgL ΦBY_ok ocE ?_
             refine nx ?_
             refine yb hB ?_
             refine rg ΦBY_ok [5, 8, 36] ocE ?_
             refine cn ?_ ?_
             ·intro h; try exact nd h
              all_goals
               refine rgL ΦBY_ok ocE ?_
               refine rgL ΦBY_ok ocE ?_
               refine nx ?_
               refine rt ocE ?_
               repeat' first | (refine lf hK ocE ?_; clear hK K') | with_reducible apply And.intro | exact sd | exact sde ocE | exact sdp ocE | refine stk ocE ?_ | fail
               all_goals
                refine cn ?_ ?_
                ·exact fun h => nd h
                intro h
                refine rgL ΦBY_ok ocE ?_
                refine nx ?_
                have eg : encTo (num l k) (j + 1) = encTo (num l k) j ++ grp (num l k) j := encTo_succ _ _
                have es := shr_at (num l k) j (by omega)
                first | rw [grp_skipF (by omega) (by assumption), List.append_nil] at eg | rw [grp_moreF (by omega) (by assumption)] at eg | rw [grp_last (by omega)] at eg
                refine ⟨j + 1, by omega, Ent.to rfl rfl rfl ?_ ?_, by omega⟩
                ·simp -implicitDefEqProofs only [go_sem]; (try simp (disch := omega) only [i64_in, tmodn, tdivn]); (try simp only [D.dat.injEq, Vm.Data.int.injEq, true_and, and_true, and_self, eq_self]); (try omega); (try ((repeat' apply And.intro) <;> first | omega | rfl))
                ·apply all_at
                 ·simp -implicitDefEqProofs only [go_sem]; (try simp only [eg, es, low7, high]); first | done | exact rfl
                 ·(repeat' (first | exact all_nil | exact marks_tail [_, _, _, _, _] rfl (by simp) | exact marks_tail [_, _, _, _, _, _] rfl (by simp) | (refine all_cons ?_ ?_))) <;> (simp -implicitDefEqProofs only [go_sem]; (try rfl); (try simp only [es, low7, high]); try first | rfl | (simp [List.length_append, Nat.add_assoc]; done) | (rw [byte_snoc8, List.append_assoc]; done) | (rw [byte_snoc7, List.append_assoc]; done))
             ·intro h; try exact nd h
              all_goals
               refine rgL ΦBY_ok ocE ?_
               refine nx ?_
               refine rt ocE ?_
               repeat' first | (refine lf hK ocE ?_; clear hK K') | with_reducible apply And.intro | exact sd | exact sde ocE | exact sdp ocE | refine stk ocE ?_ | fail
               all_goals
                refine cn ?_ ?_
                ·exact fun h => nd h
                intro h
                refine rgL ΦBY_ok ocE ?_
                refine nx ?_
                have eg : encTo (num l k) (j + 1) = encTo (num l k) j ++ grp (num l k) j := encTo_succ _ _
                have es := shr_at (num l k) j (by omega)
                first | rw [grp_skipF (by omega) (by assumption), List.append_nil] at eg | rw [grp_moreF (by omega) (by assumption)] at eg | rw [grp_last (by omega)] at eg
                refine ⟨j + 1, by omega, Ent.to rfl rfl rfl ?_ ?_, by omega⟩
                ·simp -implicitDefEqProofs only [go_sem]; (try simp (disch := omega) only [i64_in, tmodn, tdivn]); (try simp only [D.dat.injEq, Vm.Data.int.injEq, true_and, and_true, and_self, eq_self]); (try omega); (try ((repeat' apply And.intro) <;> first | omega | rfl))
                ·apply all_at
                 ·simp -implicitDefEqProofs only [go_sem]; (try simp only [eg, es, low7, high]); first | done | exact rfl
                 ·(repeat' (first | exact all_nil | exact marks_tail [_, _, _, _, _] rfl (by simp) | exact marks_tail [_, _, _, _, _, _] rfl (by simp) | (refine all_cons ?_ ?_))) <;> (simp -implicitDefEqProofs only [go_sem]; (try rfl); (try simp only [es, low7, high]); try first | rfl | (simp [List.length_append, Nat.add_assoc]; done) | (rw [byte_snoc8, List.append_assoc]; done) | (rw [byte_snoc7, List.append_assoc]; done))
        ·intro h; try exact nd h
         all_goals
          refine nx ?_
          refine rt ocE ?_
          refine ya ?_
          refine rgL ΦBY_ok ocE ?_
          refine nx ?_
          have ej : j = 10 := by omega
          subst ej
          have ee : encN l k ++ encTo (num l k) 10 = encN l (k + 1) := (encN_succ l k).symm
          rw [ee]
          refine ⟨k + 1, by omega, Ent.to rfl (marks_succ k).symm rfl ?_ ?_, by omega⟩
          ·simp -implicitDefEqProofs only [go_sem]; (try simp (disch := omega) only [i64_in, tmodn, tdivn]); (try simp only [D.dat.injEq, Vm.Data.int.injEq, true_and, and_true, and_self, eq_self]); (try omega); (try ((repeat' apply And.intro) <;> first | omega | rfl))
          ·dsimp only; rw [marksH_succ]; (repeat' (first | exact all_nil | exact marks_tail [_, _, _, _, _] rfl (by simp) | exact marks_tail [_, _, _, _] rfl (by simp) | (refine all_cons ?_ ?_))) <;> (simp -implicitDefEqProofs only [go_sem]; (try rfl); skip)
     ·intro h; try exact nd h
      all_goals
       first
       | rw [num_wrap (by omega) (by omega)]
       | rw [show (l.getD (k + 1) 0 : Int) = ((num l k : Nat) : Int) by rw [num_pos l k (by omega)]]
       refine rB ΦBY_ok [0, 5, 8, 9, 16, 17, 18, 32] ocE fun K' hK => ?_
       repeat' first | with_reducible apply And.intro | exact sd | exact sde ocE | exact sdp ocE | refine stk ocE ?_ | fail
       refine ec (rs := [.tmp 2]) (n := 4) Tryz.func150 rfl rfl rfl ?_
       refine rg ΦBY_ok [1] trivial ?_
       refine rg ΦBY_ok [2] trivial ?_
       refine nx ?_
       refine rt ocE ?_
       repeat' first | (refine lf hK ocE ?_; clear hK K') | with_reducible apply And.intro | exact sd | exact sde ocE | exact sdp ocE | refine stk ocE ?_ | fail
       all_goals
        refine nx ?_
        refine re (rs := []) (n := 26) (100 + k) 4 Tryz.func199 rfl rfl rfl fun A B hA hB => ?_
        refine rg ΦBY_ok [0, 1, 3] ocE ?_
        refine nx ?_
        refine VC.loopS (ι := Nat) [0, 1] (fun j => [(3, .dat (.int .i64 (63 - 7 * (j : Int))))]) (fun j => [(1, .cells [.sl 2 0 (encN l k ++ encTo (num l k) j).length] false), (2, .arr 5 1 (bytesD (encN l k ++ encTo (num l k) j)) 0)]) (fun j => j ≤ 10) (fun j => 10 - j) 0 (Nat.zero_le _) ?_ ?_
        ·refine Ent.to rfl rfl rfl ?_ ?_
         ·simp -implicitDefEqProofs only [go_sem]; (try simp only [D.dat.injEq, Vm.Data.int.injEq, true_and, and_true, and_self, eq_self]); (try omega); (try ((repeat' apply And.intro) <;> first | omega | rfl))
         ·apply all_at
          ·simp -implicitDefEqProofs only [go_sem]; simp only [encTo_zero, List.append_nil]; exact rfl
          ·(repeat' (first | exact all_nil | exact marks_tail [_, _, _, _, _] rfl (by simp) | (refine all_cons ?_ ?_))) <;> (simp -implicitDefEqProofs only [go_sem]; (try rfl); skip)
        intro j hj; (try dsimp only at hj)
        refine st0 ?_
        have hb : (encN l k ++ encTo (num l k) j).length ≤ 300 := by
         have := encN_len l k; have := encTo_len (num l k) j; rw [List.length_append]; omega
        refine rg ΦBY_ok [0, 1, 3, 5] ocE ?_
        refine cn ?_ ?_
        ·intro h; try exact nd h
         all_goals
          refine rB ΦBY_ok [0, 1, 3, 15] ocE fun K' hK => ?_
          repeat' first | (refine lf hK ocE ?_; clear hK K') | with_reducible apply And.intro | refine sA ocE (fun _ => ?_) fun _ => ?_ | refine sAb ocE (fun _ => ?_) fun _ => ?_ | refine sAl ocE (fun g => ?_) fun g => ?_ | exact sd | exact sde ocE | exact sdp ocE | refine stk ocE ?_ | fail
          all_goals
           refine cn ?_ ?_
           ·intro h; try exact nd h
            all_goals
             refine rgL ΦBY_ok ocE ?_
             refine nx ?_
             have eg : encTo (num l k) (j + 1) = encTo (num l k) j ++ grp (num l k) j := encTo_succ _ _
             have es := shr_at (num l k) j (by omega)
             first | rw [grp_skipF (by omega) (by assumption), List.append_nil] at eg | rw [grp_moreF (by omega) (by assumption)] at eg | rw [grp_last (by omega)] at eg
             refine ⟨j + 1, by omega, Ent.to rfl rfl rfl ?_ ?_, by omega⟩
             ·simp -implicitDefEqProofs only [go_sem]; (try simp (disch := omega) only [i64_in, tmodn, tdivn]); (try simp only [D.dat.injEq, Vm.Data.int.injEq, true_and, and_true, and_self, eq_self]); (try omega); (try ((repeat' apply And.intro) <;> first | omega | rfl))
             ·apply all_at
              ·simp -implicitDefEqProofs only [go_sem]; (try simp only [eg, es, low7, high]); first | done | exact rfl
              ·(repeat' (first | exact all_nil | exact marks_tail [_, _, _, _, _] rfl (by simp) | exact marks_tail [_, _, _, _, _, _] rfl (by simp) | (refine all_cons ?_ ?_))) <;> (simp -implicitDefEqProofs only [go_sem]; (try rfl); (try simp only [es, low7, high]); try first | rfl | (simp [List.length_append, Nat.add_assoc]; done) | (rw [byte_snoc8, List.append_assoc]; done) | (rw [byte_snoc7, List.append_assoc]; done))
           ·intro h; try exact nd h
            all_goals
             refine rB ΦBY_ok [0, 1, 3, 25] ocE fun K' hK => ?_
             repeat' first | with_reducible apply And.intro | exact sd | exact sde ocE | exact sdp ocE | refine stk ocE ?_ | fail
             refine yd hA ?_
             refine rg ΦBY_ok [5, 8, 34] ocE ?_
             refine rgL ΦBY_ok ocE ?_
             refine nx ?_
             refine yb hB ?_
             refine rg ΦBY_ok [5, 8, 36] ocE ?_
             refine cn ?_ ?_
             ·intro h; try exact nd h
              all_goals
               refine rgL ΦBY_ok ocE ?_
               refine rgL ΦBY_ok ocE ?_
               refine nx ?_
               refine rt ocE ?_
               repeat' first | (refine lf hK ocE ?_; clear hK K') | with_reducible apply And.intro | exact sd | exact sde ocE | exact sdp ocE | refine stk ocE ?_ | fail
               all_goals
                refine cn ?_ ?_
                ·exact fun h => nd h
                intro h
                refine rgL ΦBY_ok ocE ?_
                refine nx ?_
                have eg : encTo (num l k) (j + 1) = encTo (num l k) j ++ grp (num l k) j := encTo_succ _ _
                have es := shr_at (num l k) j (by omega)
                first | rw [grp_skipF (by omega) (by assumption), List.append_nil] at eg | rw [grp_moreF (by omega) (by assumption)] at eg | rw [grp_last (by omega)] at eg
                refine ⟨j + 1, by omega, Ent.to rfl rfl rfl ?_ ?_, by omega⟩
                ·simp -implicitDefEqProofs only [go_sem]; (try simp (disch := omega) only [i64_in, tmodn, tdivn]); (try simp only [D.dat.injEq, Vm.Data.int.injEq, true_and, and_true, and_self, eq_self]); (try omega); (try ((repeat' apply And.intro) <;> first | omega | rfl))
                ·apply all_at
                 ·simp -implicitDefEqProofs only [go_sem]; (try simp only [eg, es, low7, high]); first | done | exact rfl
                 ·(repeat' (first | exact all_nil | exact marks_tail [_, _, _, _, _] rfl (by simp) | exact marks_tail [_, _, _, _, _, _] rfl (by simp) | (refine all_cons ?_ ?_))) <;> (simp -implicitDefEqProofs only [go_sem]; (try rfl); (try simp only [es, low7, high]); try first | rfl | (simp [List.length_append, Nat.add_assoc]; done) | (rw [byte_snoc8, List.append_assoc]; done) | (rw [byte_snoc7, List.append_assoc]; done))
             ·intro h; try exact nd h
              all_goals
               refine rgL ΦBY_ok ocE ?_
               refine nx ?_
               refine rt ocE ?_
               repeat' first | (refine lf hK ocE ?_; clear hK K') | with_reducible apply And.intro | exact sd | exact sde ocE | exact sdp ocE | refine stk ocE ?_ | fail
               all_goals
                refine cn ?_ ?_
                ·exact fun h => nd h
                intro h
                refine rgL ΦBY_ok ocE ?_
                refine nx ?_
                have eg : encTo (num l k) (j + 1) = encTo (num l k) j ++ grp (num l k) j := encTo_succ _ _
                have es := shr_at (num l k) j (by omega)
                first | rw [grp_skipF (by omega) (by assumption), List.append_nil] at eg | rw [grp_moreF (by omega) (by assumption)] at eg | rw [grp_last (by omega)] at eg
                refine ⟨j + 1, by omega, Ent.to rfl rfl rfl ?_ ?_, by omega⟩
                ·simp -implicitDefEqProofs only [go_sem]; (try simp (disch := omega) only [i64_in, tmodn, tdivn]); (try simp only [D.dat.injEq, Vm.Data.int.injEq, true_and, and_true, and_self, eq_self]); (try omega); (try ((repeat' apply And.intro) <;> first | omega | rfl))
                ·apply all_at
                 ·simp -implicitDefEqProofs only [go_sem]; (try simp only [eg, es, low7, high]); first | done | exact rfl
                 ·(repeat' (first | exact all_nil | exact marks_tail [_, _, _, _, _] rfl (by simp) | exact marks_tail [_, _, _, _, _, _] rfl (by simp) | (refine all_cons ?_ ?_))) <;> (simp -implicitDefEqProofs only [go_sem]; (try rfl); (try simp only [es, low7, high]); try first | rfl | (simp [List.length_append, Nat.add_assoc]; done) | (rw [byte_snoc8, List.append_assoc]; done) | (rw [byte_snoc7, List.append_assoc]; done))
        ·intro h; try exact nd h
         all_goals
          refine nx ?_
          refine rt ocE ?_
          refine ya ?_
          refine rgL ΦBY_ok ocE ?_
          refine nx ?_
          have ej : j = 10 := by omega
          subst ej
          have ee : encN l k ++ encTo (num l k) 10 = encN l (k + 1) := (encN_succ l k).symm
          rw [ee]
          refine ⟨k + 1, by omega, Ent.to rfl (marks_succ k).symm rfl ?_ ?_, by omega⟩
          ·simp -implicitDefEqProofs only [go_sem]; (try simp (disch := omega) only [i64_in, tmodn, tdivn]); (try simp only [D.dat.injEq, Vm.Data.int.injEq, true_and, and_true, and_self, eq_self]); (try omega); (try ((repeat' apply And.intro) <;> first | omega | rfl))
          ·dsimp only; rw [marksH_succ]; (repeat' (first | exact all_nil | exact marks_tail [_, _, _, _, _] rfl (by simp) | exact marks_tail [_, _, _, _] rfl (by simp) | (refine all_cons ?_ ?_))) <;> (simp -implicitDefEqProofs only [go_sem]; (try rfl); skip)
   ·intro h; try exact nd h
    all_goals
     refine rg ΦBY_ok [2, 3] ocE ?_
     refine nx ?_
     refine ownK_r (ownS_marks (h := [_, _]) rfl (by simp) ?_)
     rw [show k = l.length - 1 by omega]
     simp -implicitDefEqProofs only [go_sem]
     rw [encO_yes hm, if_pos hm]
     exact ⟨rfl, rfl, rfl⟩)
end Go.Proofs.YtpajpkbipagjpaaGreatDoor.Oc
namespace Go.Proofs.YtpajpkbipagjpaaGreatDoor.Oc
open Go Go.RowKit Go.Lib
end Go.Proofs.YtpajpkbipagjpaaGreatDoor.Oc
namespace Go.Proofs.YtpajpkbipagjpaaGreatDoor.Oc
open Go Go.RowKit Go.Proofs.YtpajpkbipagjpaaGreatDoor.Vm
end Go.Proofs.YtpajpkbipagjpaaGreatDoor.Oc
namespace Go.Proofs.YtpajpkbipagjpaaGreatDoor.Oc
open Go Go.RowKit Go.Proofs.YtpajpkbipagjpaaGreatDoor.Vm Go.Proofs.YtpajpkbipagjpaaGreatDoor.Tr Go.IntWalk
set_option maxRecDepth 100000
set_option maxHeartbeats 4000000
def scanS (p : Nat × List Nat) (c : UInt8) : Nat × List Nat := if c.toNat < 128 then (0, p.2 ++ [p.1 * 128 + c.toNat % 128]) else (p.1 * 128 + c.toNat % 128, p.2)
def scanN (b : List UInt8) (k : Nat) : Nat × List Nat := (b.take k).foldl scanS (0, [])
def okS (b : List UInt8) : Bool := (List.range b.length).all fun k => decide ((scanN b k).1 ≤ 72057594037927935)
def fixS : List Nat → List Nat
 | [] => []
 | x :: r => min (x / 40) 2 :: (x - 40 * min (x / 40) 2) :: r
def readX (b : List UInt8) : List Nat := fixS (scanN b b.length).2
def readS (b : List UInt8) : Option (List Nat) := if okS b = true ∧ may (readX b) = true ∧ enc (readX b) = b then some (readX b) else none
end Go.Proofs.YtpajpkbipagjpaaGreatDoor.Oc

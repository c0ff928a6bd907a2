/- What functions of the program, of its library and of the document compute: their contracts, and laws about what they compute (X17). No condition. -/
import Derived.Test.YtpajpkbipagjpaaGreatDoorX16
import Derived.Test.YtpajpkbipagjpaaGreatDoorX09
import Derived.Test.YtpajpkbipagjpaaGreatDoorX06
import Derived.Test.YtpajpkbipagjpaaGreatDoorX04
import Derived.Shelf.Strings.SlTrimAscii
import Derived.Shelf.Small.Wraps
import Derived.Shelf.Strings.Prefix
import Derived.Test.YtpajpkbipagjpaaGreatDoorProg
set_option linter.unusedVariables false
set_option linter.unusedSimpArgs false
namespace Go.Proofs.YtpajpkbipagjpaaGreatDoor.Oc
open Go Go.RowKit Go.Proofs.YtpajpkbipagjpaaGreatDoor.Vm Go.Proofs.YtpajpkbipagjpaaGreatDoor.Tr Go.IntWalk
set_option maxRecDepth 100000
set_option maxHeartbeats 4000000
def beB : Nat → Nat → List UInt8
 | 0, _ => []
 | k + 1, n => beB k (n / 256) ++ [UInt8.ofNat (n % 256)]
def lenB (n : Nat) : List UInt8 := if n < 128 then [UInt8.ofNat n] else UInt8.ofNat (128 + ((beB 8 n).dropWhile (· == 0)).length) :: (beB 8 n).dropWhile (· == 0)
def tagB (c g : Int) (b : Bool) : UInt8 := UInt8.ofNat (64 * c + g + if b then 32 else 0).toNat
mutual
def encT : T → List UInt8
 | .mk c g b s ks => tagB c g b :: (lenB (s.length + (encsT ks).length) ++ (s ++ encsT ks))
def encsT : List T → List UInt8
 | [] => []
 | t :: ts => encT t ++ encsT ts
end
def conN (t : T) : Nat := t.bytes.length + (encsT t.kids).length
theorem encT_eq (t : T) : encT t = tagB t.cls t.tag t.cons :: (lenB (conN t) ++ (t.bytes ++ encsT t.kids)) := by cases t; rw [encT]; rfl
theorem encsT_nil : encsT [] = [] := by rw [encsT]
theorem encsT_cons (t : T) (l : List T) : encsT (t :: l) = encT t ++ encsT l := by rw [encsT]
theorem encsT_append : ∀ (a b : List T), encsT (a ++ b) = encsT a ++ encsT b
 | [], b => by rw [encsT_nil, List.nil_append, List.nil_append]
 | t :: a, b => by rw [List.cons_append, encsT_cons, encsT_cons, encsT_append a b, List.append_assoc]
theorem encsT_next {t : T} {i : Nat} (h : i < t.kids.length) : encsT (t.kids.take (i + 1)) = encsT (t.kids.take i) ++ encT (t.kids.getD i T.zero) := by
 rw [List.take_add_one, List.getElem?_eq_getElem h, encsT_append, List.getD_eq_getElem?_getD, List.getElem?_eq_getElem h]
 simp only [Option.toList_some, Option.getD_some, encsT_cons, encsT_nil, List.append_nil]
theorem encT_len (t : T) : (encT t).length = 1 + (lenB (conN t)).length + conN t := by
 rw [encT_eq, List.length_cons, List.length_append, List.length_append, conN]; omega
theorem lenB_small {n : Nat} (h : n < 128) : lenB n = [UInt8.ofNat n] := by unfold lenB; rw [if_pos h]
theorem beB_len : ∀ k n, (beB k n).length = k
 | 0, _ => rfl
 | k + 1, n => by rw [beB, List.length_append, beB_len k]; rfl
theorem beB_zero : ∀ k, beB k 0 = List.replicate k 0
 | 0 => rfl
 | k + 1 => by rw [beB, Nat.zero_div, beB_zero k, List.replicate_succ']; rfl
theorem dropZ_append (a : Nat) (l : List UInt8) : (List.replicate a 0 ++ l).dropWhile (· == 0) = l.dropWhile (· == 0) := by
 induction a with
 | zero => rfl
 | succ a ih => rw [List.replicate_succ, List.cons_append, List.dropWhile_cons, if_pos (by decide)]; exact ih
theorem beB_split : ∀ (k j n : Nat), n < 256 ^ j → beB (k + j) n = List.replicate k 0 ++ beB j n
 | k, 0, n, h => by
   obtain rfl : n = 0 := by simpa using h
   rw [Nat.add_zero, beB_zero, beB, List.append_nil]
 | k, j + 1, n, h => by
   rw [← Nat.add_assoc, beB, beB, beB_split k j (n / 256) (Nat.div_lt_of_lt_mul (by rw [Nat.pow_succ] at h; omega)), List.append_assoc]
theorem dropZ_le {n j : Nat} (h : n < 256 ^ j) (hj : j ≤ 8) : ((beB 8 n).dropWhile (· == 0)).length ≤ j := by
 rw [show 8 = (8 - j) + j by omega, beB_split _ _ _ h, dropZ_append]
 have := List.dropWhile_sublist (l := beB j n) (· == (0 : UInt8))
 have := this.length_le
 rw [beB_len] at this; exact this
theorem lenB_le {n : Nat} (h : n < 16777216) : (lenB n).length ≤ 4 := by
 unfold lenB
 split
 ·simp
 ·have := dropZ_le (n := n) (j := 3) (by omega) (by omega)
  rw [List.length_cons]; omega
theorem lenB_pos (n : Nat) : 1 ≤ (lenB n).length := by unfold lenB; split <;> simp
theorem enc_sz (n : Nat) : ∀ t : T, t.sz ≤ n → t.sz ≤ 16000000 → (encT t).length ≤ t.sz ∧ conN t ≤ t.sz := by
 induction n using Nat.strongRecOn with
 | _ n ih =>
 intro t hn hb
 have key : ∀ l : List T, T.szs l < n → T.szs l ≤ 16000000 → (encsT l).length ≤ T.szs l := by
  intro l
  induction l with
  | nil => intro _ _; rw [encsT_nil]; exact Nat.zero_le _
  | cons x l ihl =>
    intro h h0
    rw [T.szs_cons] at h h0 ⊢
    have h1 := (ih x.sz (by omega) x (Nat.le_refl _) (by omega)).1
    have h2 := ihl (by omega) (by omega)
    rw [encsT_cons, List.length_append]; omega
 have hs := T.sz_eq t
 have hk := key t.kids (by omega) (by omega)
 have hc : conN t ≤ t.bytes.length + T.szs t.kids := by unfold conN; omega
 have hl := lenB_le (n := conN t) (by omega)
 rw [encT_len]
 omega
theorem enc_le {t : T} (h : t.sz ≤ 16000000) : (encT t).length ≤ t.sz ∧ conN t ≤ t.sz := enc_sz _ t (Nat.le_refl _) h
theorem encs0 (t : T) : (encsT (t.kids.take 0)).length = 0 := by rw [List.take_zero, encsT_nil]; rfl
theorem encs_lenN {t : T} {i : Nat} (h : i < t.kids.length) : (encsT (t.kids.take (i + 1))).length = (encsT (t.kids.take i)).length + (encT (t.kids.getD i T.zero)).length := by rw [encsT_next h, List.length_append]
theorem encs_take {t : T} {i : Nat} : t.bytes.length + (encsT (t.kids.take i)).length ≤ conN t := by
 unfold conN
 conv => rhs; rw [← List.take_append_drop i t.kids, encsT_append, List.length_append]
 omega
theorem con_end {t : T} {i : Nat} (h : i = t.kids.length) : ((t.bytes.length : Int) + ((encsT (t.kids.take i)).length : Int)) = (conN t : Int) := by
 unfold conN; rw [h, List.take_length]; omega
theorem enc_mem {t : T} {i : Nat} (h : i < t.kids.length) : (encsT (t.kids.take i)).length + (encT (t.kids.getD i T.zero)).length ≤ (encsT t.kids).length := by
 have := encs_take (t := t) (i := i + 1)
 rw [encs_lenN h] at this; unfold conN at this; omega
theorem byI_lenB {n : Int} (h0 : 0 ≤ n) (h1 : n < 128) : bytesD [byI n] = bytesD (lenB n.toNat) := by
 rw [lenB_small (by omega)]
 unfold byI
 rw [Int.emod_eq_of_lt h0 (by omega)]
@[go_sem] noncomputable def len1F : PFn := PF [SI .i64] (fun (n : Int) => 0 ≤ n ∧ n < 128) (fun (n : Int) => [.lst (bytesD (lenB n.toNat))])
theorem len1_ok : Pure E 184 len1F := Pure.of_sig (rs := [.tmp 2]) (n := 30) Tryz.func184 rfl rfl rfl (Nat.le_of_ble_eq_true rfl) (by
 intro (n : Int) hds
 have h1 := hds.1
 have h2 := hds.2
 have hl := byI_lenB h1 h2
 refine st0 ?_
 refine rg sound_nil [0] inE ?_
 refine rg sound_nil [0, 5] inE ?_
 refine cn ?_ ?_
 ·exact fun h => na h
 intro h
 refine rg sound_nil [0, 8] inE ?_
 refine cn ?_ ?_
 ·intro h; try exact na h
  all_goals
   refine rg sound_nil [2] inE ?_
   refine fi inE ?_
   exact hl
 ·exact fun h => na h)
@[go_sem] noncomputable def dconF (n : Nat) : PFn := PF [SPt] (fun (t : T) => t.sz < n ∧ t.sz ≤ 100) (fun (t : T) => [.int .i64 (conN t : Int)])
@[go_sem] noncomputable def sizF (n : Nat) : PFn := PF [SPt] (fun (t : T) => t.sz < n ∧ t.sz ≤ 100) (fun (t : T) => [.int .i64 ((encT t).length : Int)])
noncomputable def ΦSz (m : Nat) : Fns := tab [(184, len1F), (183, dconF m)]
theorem ΦSz_ok {m : Nat} (h : Pure E 183 (dconF m)) : Sound E (ΦSz m) := sound_cons (by kernel_rfl) len1_ok (sound_cons (by kernel_rfl) h sound_nil)
@[go_sem] theorem ΦSz_r (m : Nat) : ΦSz m 184 = some len1F ∧ ΦSz m 183 = some (dconF m) := ⟨rfl, rfl⟩
theorem siz_of {m : Nat} (hS : Pure E 183 (dconF m)) : Pure E 135 (sizF m) := Pure.of_sig (rs := [.tmp 2]) (n := 12) Tryz.func135 rfl rfl rfl (Nat.le_of_ble_eq_true rfl) (by
 intro (t : T) hds
 have hΦ := ΦSz_ok hS
 have hdl := enc_le (t := t) (by omega)
 have hd2 := encT_len t
 have hd3 : (lenB (conN t)).length = 1 := by rw [lenB_small (by omega)]; rfl
 refine st0 ?_
 refine rg hΦ [0] trivial ?_
 refine rg hΦ [3] trivial ?_
 refine rg hΦ [2] trivial ?_
 refine fi (bytesD_len) ?_
 omega)
noncomputable def ΦCo (m : Nat) : Fns := tab [(135, sizF m)]
theorem ΦCo_ok {m : Nat} (h : Pure E 183 (dconF m)) : Sound E (ΦCo m) := sound_cons (by kernel_rfl) (siz_of h) sound_nil
@[go_sem] theorem ΦCo_r (m : Nat) : ΦCo m 135 = some (sizF m) := rfl
theorem dcon_ok (n : Nat) : Pure E 183 (dconF n) := by
 induction n using Nat.strongRecOn with
 | _ n ih =>
 exact Pure.of_sig (rs := [.tmp 2]) (n := 31) Tryz.func183 rfl rfl rfl (Nat.le_of_ble_eq_true rfl) (by
  intro (t : T) hds
  have hΦ := ΦCo_ok (ih t.sz (by omega))
  have hkl := kids_len t
  have hdl := enc_le (t := t) (by omega)
  have hmn : (if (65537 : Int) < (t.bytes.length : Int) then 65537 else (t.bytes.length : Int)) = (t.bytes.length : Int) := if_neg (by have := T.sz_eq t; omega)
  refine st0 ?_
  refine rg hΦ [0] trivial ?_
  refine rg hΦ [0, 3] trivial ?_
  refine rg hΦ [0, 3, 15, 16] trivial ?_
  refine nx ?_
  refine VC.loopP (ι := Nat) [0, 15] (fun i => [(3, .dat (.int .i64 ((t.bytes.length : Int) + ((encsT (t.kids.take i)).length : Int)))), (16, .dat (.int .i64 (i : Int)))]) (fun _ => []) (fun i => i ≤ t.kids.length) (fun i => t.kids.length - i) 0 (by omega) (ete (And.intro hmn (encs0 t))) ?_
  rintro i hp; try dsimp only at hp
  refine st0 ?_
  refine rg hΦ [0, 3, 15, 16, 17] trivial ?_
  refine cn ?_ ?_
  ·intro h; try exact nd h
   all_goals
    have hi : i < t.kids.length := by omega
    refine rg hΦ [0, 3, 4, 15, 16] trivial ?_
    have hk := T.kid_sz (kid_mem' hi)
    have hna := encs_lenN hi
    have hnb := encs_take (t := t) (i := i + 1)
    refine rgL hΦ (nodesD_at hi) ?_
    refine rgL hΦ trivial ?_
    refine nx ?_
    exact ⟨i + 1, by omega, ete hna, by omega⟩
  ·intro h; try exact nd h
   all_goals
    have hy := con_end (t := t) (i := i) (by omega)
    refine rg hΦ [2] trivial ?_
    first
    | exact fz hy)
@[go_sem] noncomputable def dcon0F : PFn := dconF 101
theorem dcon0_ok : Pure E 183 dcon0F := dcon_ok 101
@[go_sem] noncomputable def siz0F : PFn := sizF 101
theorem siz0_ok : Pure E 135 siz0F := siz_of (dcon_ok 101)
noncomputable def ΦDS : Fns := tab [(116, checkgF), (135, siz0F)]
theorem ΦDS_ok : Sound E ΦDS := sound_cons (by kernel_rfl) checkg_ok (sound_cons (by kernel_rfl) siz0_ok (sound_nil))
@[go_sem] theorem ΦDS_r : ΦDS 116 = some checkgF ∧ ΦDS 135 = some siz0F := ⟨rfl, rfl⟩
@[go_sem] noncomputable def dsizeF : PFn := PF [ST] (fun (t : T) => goodT t ∧ t.sz ≤ 100) (fun (t : T) => [.int .i64 ((encT t).length : Int), .int .i64 0])
theorem dsize_ok : Pure E 97 dsizeF := Pure.of_sig (rs := [.tmp 2, .tmp 3]) (n := 15) Tryz.func97 rfl rfl rfl (Nat.le_of_ble_eq_true rfl) (by
 intro (t : T) hds
 have hg := hds.1
 have hdl := enc_le (t := t) (by omega)
 refine st0 ?_
 refine rg ΦDS_ok [1] trivial ?_
 refine rg ΦDS_ok [1, 4] trivial ?_
 refine rg ΦDS_ok [1, 4, 9] trivial ?_
 refine cn ?_ ?_
 ·intro h; try exact na h
  all_goals
   refine rg ΦDS_ok [2, 3] trivial ?_
   exact fz trivial
 ·intro h; try exact na h
  all_goals
   refine rg ΦDS_ok [5] trivial ?_
   refine rg ΦDS_ok [5, 13] trivial ?_
   refine cn ?_ ?_
   ·intro h; try exact na h
    all_goals
     refine rg ΦDS_ok [2, 3] trivial ?_
     exact fz trivial
   ·intro h; try exact na h
    all_goals
     refine rg ΦDS_ok [2, 3] trivial ?_
     exact fz trivial)
end Go.Proofs.YtpajpkbipagjpaaGreatDoor.Oc
namespace Go.Proofs.YtpajpkbipagjpaaGreatDoor.Oc
open Go Go.RowKit Go.Proofs.YtpajpkbipagjpaaGreatDoor.Vm Go.Proofs.YtpajpkbipagjpaaGreatDoor.Tr Go.IntWalk
set_option maxRecDepth 100000
set_option maxHeartbeats 4000000
def bbD (l : List (List UInt8)) : List (List Vm.Data) := l.map fun s => [.lst (bytesD s)]
@[go_sem] theorem bbD_len (l : List (List UInt8)) : (bbD l).length = l.length := by simp [bbD]
theorem bbD_at {l : List (List UInt8)} {k : Nat} (h : k < l.length) : (bbD l).getD k [] = [.lst (bytesD (l.getD k []))] := by
 simp [bbD, List.getD_eq_getElem?_getD, List.getElem?_map, List.getElem?_eq_getElem h]
theorem bbD_inj {l m : List (List UInt8)} (h : bbD l = bbD m) : l = m := by
 refine (List.map_inj_right (fun a b e => ?_)).1 h
 simpa [bytesD_inj] using e
@[reducible] def SBs : Sig := ⟨List (List UInt8), fun l => .lst (bbD l), fun _ _ h => by injection h with h; exact bbD_inj h⟩
theorem SBs_dec2 {a b : List UInt8} : SBs.dec (.lst [[.lst (bytesD a)], [.lst (bytesD b)]]) = some [a, b] := SBs.dec_enc [a, b]
theorem SBs_dec {l : List (List UInt8)} : SBs.dec (.lst (bbD l)) = some l := SBs.dec_enc l
section
variable {β : Type} {z : β} {ss : List Sig} {ds : List Vm.Data}
theorem ap_SBs {f : Fun (SBs :: ss) β} {l : List (List UInt8)} : ap z (SBs :: ss) f (.lst (bbD l) :: ds) = ap z ss (f l) ds := by rw [ap_cons, SBs_dec, apO_some]
theorem ap_SBs2 {f : Fun (SBs :: ss) β} {a b : List UInt8} : ap z (SBs :: ss) f (.lst [[.lst (bytesD a)], [.lst (bytesD b)]] :: ds) = ap z ss (f [a, b]) ds := by rw [ap_cons, SBs_dec2, apO_some]
end
attribute [go_sem] ap_SBs ap_SBs2
theorem og {Φ : Fns} {st : St} {dst : Option Nat} {lr : List SO} {K' : St → Prop} {n : Int} {q T : Prop} (l : Nat) (e : T) (hk : q) (hm : st.noMark l := by (simp -implicitDefEqProofs only [go_sem]; try decide))
 (hp : T → 1 ≤ n ∧ n ≤ 200000000 := by
  intro e
  try simp -implicitDefEqProofs only [go_sem, e]
  repeat' first
   | with_reducible apply And.intro
   | exact sd)
 (k : T → q → Go.Proofs.YtpajpkbipagjpaaGreatDoor.Vm.Rest E Φ dst lr K' (.sl l 0 0) (st.add l (.arr 5 1 [] 0)) := by
  intro e h
  simp -implicitDefEqProofs only [go_sem, Go.Proofs.YtpajpkbipagjpaaGreatDoor.Vm.Rest, e]
  exact h) : VCcall E 322 [.nilsl, .dat (.int .i64 n)] st (Go.Proofs.YtpajpkbipagjpaaGreatDoor.Vm.Rest E Φ dst lr K') := VCcall.grow l (hp e).1 (hp e).2 hm (k e hk)
theorem flat_next {l : List (List UInt8)} {i : Nat} (h : i < l.length) : (l.take (i + 1)).flatten = (l.take i).flatten ++ l.getD i [] := by
 rw [List.take_add_one, List.getElem?_eq_getElem h, List.getD_eq_getElem?_getD, List.getElem?_eq_getElem h, List.flatten_append, Option.toList_some, List.flatten_cons, List.flatten_nil, List.append_nil]
 rfl
theorem flat_le {l : List (List UInt8)} {i : Nat} (h : i < l.length) : (l.take i).flatten.length + (l.getD i []).length ≤ l.flatten.length := by
 have := flat_next h
 have h2 : (l.take (i + 1)).flatten.length + (l.drop (i + 1)).flatten.length = l.flatten.length := by rw [← List.length_append, ← List.flatten_append, List.take_append_drop]
 rw [this, List.length_append] at h2; omega
theorem beB_cons : ∀ k n, beB (k + 1) n = UInt8.ofNat (n / 256 ^ k % 256) :: beB k n
 | 0, n => by simp [beB]
 | k + 1, n => by
   rw [beB, beB_cons k (n / 256), beB, Nat.div_div_eq_div_mul, show 256 * 256 ^ k = 256 ^ (k + 1) by rw [Nat.pow_succ]; omega]
   rfl
def rowB (n i : Nat) : List UInt8 := List.replicate (8 - i) 0 ++ beB i n
theorem rowB_len {n i : Nat} (h : i ≤ 8) : (rowB n i).length = 8 := by unfold rowB; rw [List.length_append, List.length_replicate, beB_len]; omega
theorem rowB_next {n i : Nat} (h : i < 8) : (rowB n i).set (7 - i) (UInt8.ofNat (n / 256 ^ i % 256)) = rowB n (i + 1) := by
 unfold rowB
 rw [beB_cons, show 8 - i = (7 - i) + 1 by omega, show 8 - (i + 1) = 7 - i by omega, List.replicate_succ', List.append_assoc, List.set_append_right _ _ (by rw [List.length_replicate]; omega)]
 rw [List.length_replicate, Nat.sub_self]; rfl
@[go_sem] theorem mk1 : (some [D.dat (Vm.Data.int .u8 0)]).bind datasOf = some [.int .u8 0] := rfl
@[go_sem] theorem mk2 : [Vm.Data.int .u8 0].all Vm.Data.one = true ∧ [Vm.Data.int .u8 0].length = 1 ∧ Int.toNat 8 = 8 := ⟨rfl, rfl, rfl⟩
theorem rowB0 (n : Nat) : bytesD (rowB n 0) = List.replicate 8 [.int .u8 0] := by
 unfold rowB; rw [beB]; rfl
theorem rowB_byte (n i : Nat) : byI ((n / 256 ^ i : Nat) : Int) = UInt8.ofNat (n / 256 ^ i % 256) := by unfold byI; congr 1
def shB8 (n i : Nat) : Nat := n / 256 ^ i
theorem hi_zero (n : Nat) : shB8 n 0 = n := by simp [shB8]
theorem hi_next (n i : Nat) : ((shB8 n i : Nat) : Int).fdiv (2 ^ min 8 64) = (shB8 n (i + 1) : Int) := by
 have : shB8 n i / 256 = shB8 n (i + 1) := by unfold shB8; rw [Nat.div_div_eq_div_mul, Nat.pow_succ]
 rw [← this]
 show Int.fdiv _ 256 = _
 rw [Int.fdiv_eq_ediv_of_nonneg _ (by decide)]; rfl
theorem hi_end {n : Nat} (h : n < 18446744073709551616) : shB8 n 8 = 0 := Nat.div_eq_of_lt (by omega)
theorem row_end (n : Nat) : rowB n 8 = beB 8 n := rfl
theorem row_set {n i : Nat} (h : i < 8) : (bytesD (rowB n i)).set (7 - i) (Vm.Data.int .u8 ((byI ((shB8 n i : Nat) : Int)).toNat : Int) :: List.drop 1 ((bytesD (rowB n i)).getD (7 - i) [])) = bytesD (rowB n (i + 1)) := by
 rw [bytesD_at (by rw [rowB_len (by omega)]; omega)]
 have := bytes_set (l := rowB n i) (k := 7 - i) ((shB8 n i : Nat) : Int)
 rw [wrap8] at this
 refine Eq.trans (show _ = _ from this) ?_
 rw [show byI ((shB8 n i : Nat) : Int) = UInt8.ofNat (n / 256 ^ i % 256) from rowB_byte n i, rowB_next h]
@[go_sem] noncomputable def sizedF : PFn := PF [SI .i64] (fun (n : Int) => 0 ≤ n ∧ n ≤ 65536) (fun (n : Int) => [.bool true])
theorem sized_ok : Pure E 274 sizedF := Pure.of_sig (rs := [.tmp 2]) (n := 9) Tryz.func274 rfl rfl rfl (Nat.le_of_ble_eq_true rfl) (by
 intro (n : Int) hds
 obtain ⟨h1, h2⟩ := hds
 refine st0 ?_
 refine rg sound_nil [0] trivial ?_
 refine rB sound_nil [2] trivial fun K' hK => ?_
 repeat' first | (refine lf hK trivial ?_; clear hK K') | with_reducible apply And.intro | refine sA trivial (fun _ => ?_) fun _ => ?_ | refine sAb trivial (fun _ => ?_) fun _ => ?_ | refine sAl trivial (fun g => ?_) fun g => ?_ | exact sd | exact sde trivial | exact sdp trivial | refine stk trivial ?_ | fail
 all_goals
  exact fz trivial)
noncomputable def ΦBig : Fns := tab [(274, sizedF)]
theorem ΦBig_ok : Sound E ΦBig := sound_cons (by kernel_rfl) sized_ok (sound_nil)
@[go_sem] theorem ΦBig_r : ΦBig 274 = some sizedF := rfl
@[go_sem] noncomputable def big8O : OFn := OF [SI .u64, SI .i64] (fun (n : Int) (k : Int) => 0 ≤ n ∧ n < 18446744073709551616 ∧ k = 8) 5 1 (fun (n : Int) (k : Int) => bytesD (beB 8 n.toNat)) (fun (n : Int) (k : Int) => [.int .i64 0])
@[go_sem] noncomputable def big8F : PFn := big8O.shut
theorem big8_own : Own E 227 big8O := Own.of_sig (rs := [.tmp 4, .tmp 5]) (n := 29) Tryz.func227 rfl rfl rfl (Nat.le_of_ble_eq_true rfl) (by
 intro (n : Int) (k : Int) hds
 obtain ⟨h1, h2, rfl⟩ := hds
 obtain ⟨m, rfl⟩ := Int.eq_ofNat_of_zero_le h1
 refine st0 ?_
 refine rg ΦBig_ok [0, 1] (And.intro Int.toNat_natCast inE) ?_
 refine rg ΦBig_ok [0, 1, 10] (And.intro Int.toNat_natCast inE) ?_
 refine cn ?_ ?_
 ·intro h; try exact na h
  all_goals
   refine rg ΦBig_ok [4, 5] (And.intro Int.toNat_natCast inE) ?_
   first
   | exact fz (And.intro hre (And.intro (beB_len 8 m) (And.intro Int.toNat_natCast inE)))
   | exact fz inE
 ·intro h; try exact na h
  all_goals
   refine rg ΦBig_ok [0, 1, 6] (And.intro Int.toNat_natCast inE) ?_
   refine rg ΦBig_ok [0, 6, 7] (And.intro Int.toNat_natCast inE) ?_
   refine nx ?_
   refine VC.loopP (ι := Nat) [1, 6] (fun i => [(0, .dat (.int .u64 (shB8 m i : Int))), (7, .dat (.int .i64 (7 - (i : Int))))]) (fun i => [(1, .arr 5 1 (bytesD (rowB m i)) 0)]) (fun i => i ≤ 8) (fun i => 8 - i) 0 (Nat.zero_le _) ?_ ?_
   ·refine Ent.to rfl rfl rfl ?_ ?_
    ·simp -implicitDefEqProofs only [go_sem]; (try rw [hi_zero]); (try simp only [D.dat.injEq, Vm.Data.int.injEq, true_and, and_true, and_self, eq_self]); (try omega); (try ((repeat' apply And.intro) <;> first | omega | rfl))
    ·(repeat' (first | exact all_nil | (refine all_cons ?_ ?_))) <;> (simp -implicitDefEqProofs only [go_sem]; (try rfl); try rw [rowB0])
   intro i hp; try dsimp only at hp
   refine st0 ?_
   refine rg ΦBig_ok [0, 1, 6, 7, 16] (And.intro Int.toNat_natCast inE) ?_
   refine cn ?_ ?_
   ·intro h; try exact na h
    all_goals
     have hj : (7 - (i : Int)).toNat = 7 - i := by omega
     have hl7 : 7 - i < (rowB m i).length := by rw [rowB_len (by omega)]; omega
     have hst := row_set (n := m) (i := i) (by omega)
     refine rg ΦBig_ok [0, 1, 6, 7] (And.intro hj (And.intro hl7 (And.intro hst inE))) ?_
     refine rgL ΦBig_ok (And.intro hi_next inE) ?_
     refine rgL ΦBig_ok (And.intro Int.toNat_natCast inE) ?_
     refine nx ?_
     refine ⟨i + 1, by omega, Ent.to rfl rfl rfl ?_ ?_, by omega⟩
     ·simp -implicitDefEqProofs only [go_sem]; (try simp (disch := omega) only [i64_in, tmodn, tdivn]); (try simp only [D.dat.injEq, Vm.Data.int.injEq, true_and, and_true, and_self, eq_self]); (try omega); (try ((repeat' apply And.intro) <;> first | omega | rfl))
     ·(repeat' (first | exact all_nil | (refine all_cons ?_ ?_))) <;> (simp -implicitDefEqProofs only [go_sem]; (try rfl); skip)
   ·intro h; try exact na h
    all_goals
     have hi8 : i = 8 := by omega
     subst hi8
     have hz8 := hi_end (n := m) (by omega)
     have hre := row_end m
     refine rg ΦBig_ok [6, 27] (And.intro hz8 inE) ?_
     refine cn ?_ ?_
     ·intro h; try exact na h
      all_goals
       refine rg ΦBig_ok [4, 5] (And.intro Int.toNat_natCast inE) ?_
       first
       | exact fz (And.intro hre (And.intro (beB_len 8 m) (And.intro Int.toNat_natCast inE)))
       | exact fz inE
     ·intro h; try exact na h
      all_goals
       refine rg ΦBig_ok [4, 5] inE ?_
       first
       | exact fz (And.intro hre (And.intro (beB_len 8 m) (And.intro Int.toNat_natCast inE)))
       | exact fz inE)
theorem big8_ok : Pure E 227 big8F := big8_own.pure
end Go.Proofs.YtpajpkbipagjpaaGreatDoor.Oc
namespace Go.Proofs.YtpajpkbipagjpaaGreatDoor.Oc
open Go Go.RowKit Go.Proofs.YtpajpkbipagjpaaGreatDoor.Vm Go.Proofs.YtpajpkbipagjpaaGreatDoor.Tr Go.IntWalk
set_option maxRecDepth 100000
set_option maxHeartbeats 4000000
def triB (b : List UInt8) : List UInt8 := b.dropWhile (· == 0)
theorem tri_len (b : List UInt8) : (triB b).length ≤ b.length := (List.dropWhile_sublist _).length_le
theorem tri_next {r : List UInt8} (h : 0 < (r.length : Int)) (hz : ((r.getD 0 0).toNat : Int) = 0) : triB (r.drop 1) = triB r := by
 cases r with
 | nil => rfl
 | cons x l =>
   have hz : (x.toNat : Int) = 0 := hz
   have : x = 0 := UInt8.toNat_inj.1 (by show _ = 0; omega)
   rw [this]; rfl
theorem tri_end {r : List UInt8} (hz : ¬ ((r.getD 0 0).toNat : Int) = 0) : triB r = r := by
 cases r with
 | nil => rfl
 | cons x l =>
   unfold triB
   rw [List.dropWhile_cons, if_neg]
   intro h2
   have : x = 0 := by simpa using h2
   rw [this] at hz; exact hz rfl
theorem tri_nil {r : List UInt8} (h : (r.length : Int) = 0) : triB r = [] := by
 cases r with
 | nil => rfl
 | cons x l => rw [List.length_cons] at h; omega
theorem take_1 (r : List UInt8) : List.take ((r.length : Int) - 1).toNat (List.drop 1 r) = List.drop 1 r := List.take_of_length_le (by rw [List.length_drop]; omega)
@[go_sem] noncomputable def tlbF : PFn := PF [SY, SI .u8] (fun (b : List UInt8) (c : Int) => c = 0 ∧ b.length ≤ 100000000) (fun (b : List UInt8) (c : Int) => [.lst (bytesD (triB b))])
theorem tlb_ok : Pure E 318 tlbF := Pure.of_sig (rs := [.tmp 4]) (n := 21) Tryz.func318 rfl rfl rfl (Nat.le_of_ble_eq_true rfl) (by
 intro (b : List UInt8) (c : Int) hds
 obtain ⟨rfl, hb⟩ := hds
 refine st0 ?_
 refine rg sound_nil [0, 1] inE ?_
 refine nx ?_
 refine VC.loopP (ι := List UInt8) [1] (fun r => [(0, .dat (.lst (bytesD r)))]) (fun _ => []) (fun r => r.length ≤ b.length ∧ triB r = triB b) (fun r => r.length) b ⟨Nat.le_refl _, rfl⟩ ?_ ?_
 ·refine Ent.to rfl rfl rfl ?_ ?_
  ·simp -implicitDefEqProofs only [go_sem]; (try simp only [D.dat.injEq, Vm.Data.int.injEq, true_and, and_true, and_self, eq_self]); (try omega); (try ((repeat' apply And.intro) <;> first | omega | rfl))
  ·(repeat' (first | exact all_nil | (refine all_cons ?_ ?_))) <;> (simp -implicitDefEqProofs only [go_sem]; (try rfl); skip)
 rintro r ⟨hp, hq⟩; try dsimp only at hp hq
 refine st0 ?_
 refine rB sound_nil [0, 1, 14] inE fun K' hK => ?_
 repeat' first | (refine lf hK inE ?_; clear hK K') | with_reducible apply And.intro | refine sA inE (fun _ => ?_) fun _ => ?_ | refine sAb inE (fun _ => ?_) fun _ => ?_ | refine sAl inE (fun g => ?_) fun g => ?_ | exact sd | exact sde inE | exact sdp inE | refine stk inE ?_ | fail
 all_goals
  refine cn ?_ ?_
  ·intro h; try exact na h
   all_goals
    refine rgL sound_nil inE ?_
    refine nx ?_
    refine ⟨r.drop 1, ⟨by rw [List.length_drop]; omega, (tri_next (by assumption) (by assumption)).trans hq⟩, Ent.to rfl rfl rfl ?_ ?_, by rw [List.length_drop]; omega⟩
    ·simp -implicitDefEqProofs only [go_sem]; rw [take_1]; (try simp only [D.dat.injEq, Vm.Data.int.injEq, true_and, and_true, and_self, eq_self]); (try omega); (try ((repeat' apply And.intro) <;> first | omega | rfl))
    ·(repeat' (first | exact all_nil | (refine all_cons ?_ ?_))) <;> (simp -implicitDefEqProofs only [go_sem]; (try rfl); skip)
  ·intro h; try exact na h
   all_goals
    refine rg sound_nil [0, 19] inE ?_
    refine cn ?_ ?_
    ·intro h; try exact na h
     all_goals
      have hr0 : triB b = [] := by rw [← hq]; exact tri_nil (by assumption)
      refine rg sound_nil [4] hr0 ?_
      first
      | exact fz hr0
      | exact fz hr1
      | (rw [hr0]; exact fz inE)
      | (rw [hr1]; exact fz inE)
    ·intro h; try exact na h
     all_goals
      have hr1 : triB b = r := by rw [← hq]; exact tri_end (by assumption)
      refine rg sound_nil [4] hr1 ?_
      first
      | exact fz hr0
      | exact fz hr1
      | (rw [hr0]; exact fz inE)
      | (rw [hr1]; exact fz inE))
noncomputable def ΦTl : Fns := tab [(318, tlbF)]
theorem ΦTl_ok : Sound E ΦTl := sound_cons (by kernel_rfl) tlb_ok (sound_nil)
@[go_sem] theorem ΦTl_r : ΦTl 318 = some tlbF := rfl
@[go_sem] noncomputable def tlfF : PFn := PF [SY, SS] (fun (b : List UInt8) (s : List UInt8) => s = [0] ∧ b.length ≤ 100000000) (fun (b : List UInt8) (s : List UInt8) => [.lst (bytesD (triB b))])
theorem tlf_ok : Pure E 275 tlfF := Pure.of_sig (rs := [.tmp 4]) (n := 36) Tryz.func275 rfl rfl rfl (Nat.le_of_ble_eq_true rfl) (by
 intro (b : List UInt8) (s : List UInt8) hds
 obtain ⟨rfl, hb⟩ := hds
 refine st0 ?_
 refine rg ΦTl_ok [0, 1] inE ?_
 refine rg ΦTl_ok [0, 1, 9] inE ?_
 refine cn ?_ ?_
 ·intro h; try exact na h
  all_goals
   have hr0 : triB b = [] := tri_nil (by assumption)
   refine rg ΦTl_ok [4] hr0 ?_
   first
   | exact fz hr0
   | exact fz inE
 ·intro h; try exact na h
  all_goals
   refine rg ΦTl_ok [0, 1, 11] inE ?_
   refine cn ?_ ?_
   ·intro h; try exact na h
    all_goals
     refine rg ΦTl_ok [4] inE ?_
     first
     | exact fz hr0
     | exact fz inE
   ·intro h; try exact na h
    all_goals
     refine rB ΦTl_ok [0, 1, 20] inE fun K' hK => ?_
     repeat' first | (refine lf hK inE ?_; clear hK K') | with_reducible apply And.intro | refine sA inE (fun _ => ?_) fun _ => ?_ | refine sAb inE (fun _ => ?_) fun _ => ?_ | refine sAl inE (fun g => ?_) fun g => ?_ | exact sd | exact sde inE | exact sdp inE | refine stk inE ?_ | fail
     all_goals
      refine cn ?_ ?_
      ·intro h; try exact na h
       all_goals
        refine rg ΦTl_ok [4] inE ?_
        first
        | exact fz hr0
        | exact fz inE
      ·intro h; try exact na h
       all_goals
        refine rg ΦTl_ok [0, 1, 5, 6] inE ?_
        refine rg ΦTl_ok [0, 1, 5, 30] inE ?_
        refine cn ?_ ?_
        ·intro h; try exact na h
         all_goals
          refine rg ΦTl_ok [4] inE ?_
          first
          | exact fz hr0
          | exact fz inE
        ·intro h; try exact na h
         all_goals
          refine rg ΦTl_ok [4] inE ?_
          first
          | exact fz hr0
          | exact fz inE)
noncomputable def ΦTr : Fns := tab [(275, tlfF)]
theorem ΦTr_ok : Sound E ΦTr := sound_cons (by kernel_rfl) tlf_ok (sound_nil)
@[go_sem] theorem ΦTr_r : ΦTr 275 = some tlfF ∧ ΦTr 88 = none := ⟨rfl, rfl⟩
theorem tri_lenI : ∀ b : List UInt8, b.length ≤ 100000000 → (triB b).length ≤ 100000000 := fun b h => Nat.le_trans (tri_len b) h
@[go_sem] noncomputable def otrimO : OFn := OF [SY] (fun (b : List UInt8) => b.length ≤ 100000000) 5 1 (fun (b : List UInt8) => bytesD (triB b)) (fun (b : List UInt8) => [])
@[go_sem] noncomputable def otrimF : PFn := otrimO.shut
theorem otrim_own : Own E 228 otrimO := Own.of_sig (rs := [.tmp 2]) (n := 6) Tryz.func228 rfl rfl rfl (Nat.le_of_ble_eq_true rfl) (by
 intro (b : List UInt8) hds
 have hl := tri_lenI b hds
 refine st0 ?_
 refine rg ΦTr_ok [0] trivial ?_
 refine rB ΦTr_ok [2] trivial fun K' hK => ?_
 repeat' first | with_reducible apply And.intro | exact sd | exact sde trivial | exact sdp trivial | refine stk trivial ?_ | fail
 refine oc bcl_own 40 trivial ?_
 repeat' first | (refine lf hK trivial ?_; clear hK K') | with_reducible apply And.intro | exact sd | exact sde trivial | exact sdp trivial | refine stk trivial ?_ | fail
 exact fz trivial)
theorem otrim_ok : Pure E 228 otrimF := otrim_own.pure
noncomputable def ΦCc : Fns := tab []
theorem ΦCc_ok : Sound E ΦCc := sound_nil
@[go_sem] theorem ΦCc_r : ΦCc 322 = none := rfl
@[go_sem] theorem ΦCc_c : callable Tryz.prog 322 = true := by kernel_rfl
@[go_sem] noncomputable def concO : OFn := OF [SBs] (fun (l : List (List UInt8)) => 1 ≤ l.flatten.length ∧ l.flatten.length ≤ 200000000 ∧ l.length ≤ 1000000) 5 1 (fun (l : List (List UInt8)) => bytesD l.flatten) (fun (l : List (List UInt8)) => [])
theorem conc_own : Own E 276 concO := Own.of_sig (rs := [.tmp 2]) (n := 36) Tryz.func276 rfl rfl rfl (Nat.le_of_ble_eq_true rfl) (by
 intro (l : List (List UInt8)) hds
 obtain ⟨h1, h2, h3⟩ := hds
 refine st0 ?_
 refine rg ΦCc_ok [0] trivial ?_
 refine rg ΦCc_ok [0, 3] trivial ?_
 refine rg ΦCc_ok [0, 3, 9, 10, 11] trivial ?_
 refine nx ?_
 refine VC.loopP (ι := Nat) [0, 9, 10] (fun i => [(3, .dat (.int .i64 ((l.take i).flatten.length : Int))), (11, .dat (.int .i64 (i : Int)))]) (fun _ => []) (fun i => i ≤ l.length) (fun i => l.length - i) 0 (Nat.zero_le _) ?_ ?_
 ·refine Ent.to rfl rfl rfl ?_ ?_
  ·simp -implicitDefEqProofs only [go_sem]; (try simp only [D.dat.injEq, Vm.Data.int.injEq, true_and, and_true, and_self, eq_self]); (try omega); (try ((repeat' apply And.intro) <;> first | omega | rfl))
  ·(repeat' (first | exact all_nil | (refine all_cons ?_ ?_))) <;> (simp -implicitDefEqProofs only [go_sem]; (try rfl); skip)
 intro i hp; try dsimp only at hp
 refine st0 ?_
 refine rg ΦCc_ok [0, 3, 9, 10, 11, 12] trivial ?_
 refine cn ?_ ?_
 ·intro h; try exact na h
  all_goals
   have hfl := flat_le (l := l) (i := i) (by omega)
   have hbb := bbD_at (l := l) (k := i) (by omega)
   have hfb := flat_next (l := l) (i := i) (by omega)
   have hfn : (l.take (i + 1)).flatten.length = (l.take i).flatten.length + (l.getD i []).length := by rw [hfb, List.length_append]
   refine rg ΦCc_ok [0, 3, 5, 9, 10, 11] hbb ?_
   refine rg ΦCc_ok [0, 3, 9, 10, 11] trivial ?_
   refine rg ΦCc_ok [0, 3, 9, 10, 11, 20] trivial ?_
   refine cn ?_ ?_
   ·intro h; try exact na h
    all_goals
     exfalso; omega
   ·intro h; try exact na h
    all_goals
     refine rgL ΦCc_ok trivial ?_
     refine nx ?_
     refine ⟨i + 1, by omega, Ent.to rfl rfl rfl ?_ ?_, by omega⟩
     ·rw [hfn]; simp -implicitDefEqProofs only [go_sem]; (try simp (disch := omega) only [i64_in, tmodn, tdivn]); (try simp only [D.dat.injEq, Vm.Data.int.injEq, true_and, and_true, and_self, eq_self]); (try omega); (try ((repeat' apply And.intro) <;> first | omega | rfl))
     ·(repeat' (first | exact all_nil | (refine all_cons ?_ ?_))) <;> (simp -implicitDefEqProofs only [go_sem]; (try rfl); skip)
 ·intro h; try exact na h
  all_goals
   have hi : i = l.length := by omega
   subst hi
   rw [List.take_length]
   refine rB ΦCc_ok [0, 6] trivial fun K' hK => ?_
   repeat' first | with_reducible apply And.intro | exact sd | exact sde trivial | exact sdp trivial | refine stk trivial ?_ | fail
   refine og 40 trivial ?_
   repeat' first | (refine lf hK trivial ?_; clear hK K') | with_reducible apply And.intro | exact sd | exact sde trivial | exact sdp trivial | refine stk trivial ?_ | fail
   all_goals
    refine rg ΦCc_ok [6, 25, 26, 27] trivial ?_
    refine nx ?_
    refine VC.loopP (ι := Nat) [0, 25, 26] (fun i => [(6, .sl 40 0 (l.take i).flatten.length), (27, .dat (.int .i64 (i : Int)))]) (fun i => [(40, .arr 5 1 (bytesD (l.take i).flatten) 0)]) (fun i => i ≤ l.length) (fun i => l.length - i) 0 (Nat.zero_le _) ?_ ?_
    ·refine Ent.to rfl rfl rfl ?_ ?_
     ·simp -implicitDefEqProofs only [go_sem]; (try simp only [D.dat.injEq, Vm.Data.int.injEq, true_and, and_true, and_self, eq_self]); (try omega); (try ((repeat' apply And.intro) <;> first | omega | rfl))
     ·(repeat' (first | exact all_nil | (refine all_cons ?_ ?_))) <;> (simp -implicitDefEqProofs only [go_sem]; (try rfl); skip)
    intro i hp; try dsimp only at hp
    refine st0 ?_
    refine rg ΦCc_ok [0, 6, 25, 26, 27, 28] trivial ?_
    refine cn ?_ ?_
    ·intro h; try exact na h
     all_goals
      have hfl := flat_le (l := l) (i := i) (by omega)
      have hbb := bbD_at (l := l) (k := i) (by omega)
      have hfb := flat_next (l := l) (i := i) (by omega)
      have hfn : (l.take (i + 1)).flatten.length = (l.take i).flatten.length + (l.getD i []).length := by rw [hfb, List.length_append]
      refine rg ΦCc_ok [0, 6, 8, 25, 26, 27] hbb ?_
      refine rgL ΦCc_ok trivial ?_
      refine rgL ΦCc_ok trivial ?_
      refine nx ?_
      refine ⟨i + 1, by omega, Ent.to rfl rfl rfl ?_ ?_, by omega⟩
      ·rw [hfb, List.length_append]; simp -implicitDefEqProofs only [go_sem]; (try simp (disch := omega) only [i64_in, tmodn, tdivn]); (try simp only [D.dat.injEq, Vm.Data.int.injEq, true_and, and_true, and_self, eq_self]); (try omega); (try ((repeat' apply And.intro) <;> first | omega | rfl))
      ·rw [hfb]; (repeat' (first | exact all_nil | (refine all_cons ?_ ?_))) <;> (simp -implicitDefEqProofs only [go_sem]; (try rfl); skip)
    ·intro h; try exact na h
     all_goals
      have hi : i = l.length := by omega
      subst hi
      rw [List.take_length]
      refine rg ΦCc_ok [2] trivial ?_
      exact fz trivial)
noncomputable def ΦJo : Fns := tab []
theorem ΦJo_ok : Sound E ΦJo := sound_nil
@[go_sem] theorem ΦJo_r : ΦJo 276 = none := rfl
@[go_sem] theorem ΦJo_c : callable Tryz.prog 276 = true := by kernel_rfl
@[go_sem] noncomputable def ojoinO : OFn := OF [SBs] (fun (l : List (List UInt8)) => 1 ≤ l.flatten.length ∧ l.flatten.length ≤ 200000000 ∧ l.length ≤ 1000000) 5 1 (fun (l : List (List UInt8)) => bytesD l.flatten) (fun (l : List (List UInt8)) => [])
@[go_sem] noncomputable def ojoinF : PFn := ojoinO.shut
theorem ojoin_own : Own E 229 ojoinO := Own.of_sig (rs := [.tmp 2]) (n := 5) Tryz.func229 rfl rfl rfl (Nat.le_of_ble_eq_true rfl) (by
 intro (l : List (List UInt8)) hds
 refine st0 ?_
 refine rg ΦJo_ok [0] trivial ?_
 refine rB ΦJo_ok [2] trivial fun K' hK => ?_
 repeat' first | with_reducible apply And.intro | exact sd | exact sde trivial | exact sdp trivial | refine stk trivial ?_ | fail
 refine oc conc_own 40 trivial ?_
 repeat' first | (refine lf hK trivial ?_; clear hK K') | with_reducible apply And.intro | exact sd | exact sde trivial | exact sdp trivial | refine stk trivial ?_ | fail
 exact fz trivial)
theorem ojoin_ok : Pure E 229 ojoinF := ojoin_own.pure
end Go.Proofs.YtpajpkbipagjpaaGreatDoor.Oc
namespace Go.Proofs.YtpajpkbipagjpaaGreatDoor.Oc
open Go Go.RowKit Go.Proofs.YtpajpkbipagjpaaGreatDoor.Vm Go.Proofs.YtpajpkbipagjpaaGreatDoor.Tr Go.IntWalk
set_option maxRecDepth 100000
set_option maxHeartbeats 4000000
theorem lenB_big {n : Nat} (h : 128 ≤ n) : lenB n = UInt8.ofNat (128 + (triB (beB 8 n)).length) :: triB (beB 8 n) := by unfold lenB; rw [if_neg (by omega)]; rfl
theorem tri_beB (n : Nat) : (triB (beB 8 n)).length ≤ 8 := by have := tri_len (beB 8 n); rw [beB_len] at this; exact this
theorem flat2 : (∀ (a : UInt8) (b : List UInt8), [[a], b].flatten = a :: b) ∧ (∀ (a : UInt8) (b : List UInt8), (a :: b).length = b.length + 1) := ⟨fun a b => by simp, fun a b => rfl⟩
theorem byI_ofNat (k : Nat) (h : k < 256) : byI (k : Int) = UInt8.ofNat k := by unfold byI; rw [Int.emod_eq_of_lt (by omega) (by omega)]; rfl
noncomputable def ΦLn : Fns := tab [(227, big8F), (228, otrimF), (229, ojoinF)]
theorem ΦLn_ok : Sound E ΦLn := sound_cons (by kernel_rfl) big8_ok (sound_cons (by kernel_rfl) otrim_ok (sound_cons (by kernel_rfl) ojoin_ok (sound_nil)))
@[go_sem] theorem ΦLn_r : ΦLn 227 = some big8F ∧ ΦLn 228 = some otrimF ∧ ΦLn 229 = some ojoinF := ⟨rfl, rfl, rfl⟩
@[go_sem] noncomputable def lenF : PFn := PF [SI .i64] (fun (n : Int) => 0 ≤ n ∧ n < 1000000000) (fun (n : Int) => [.lst (bytesD (lenB n.toNat))])
theorem len_ok : Pure E 184 lenF := Pure.of_sig (rs := [.tmp 2]) (n := 30) Tryz.func184 rfl rfl rfl (Nat.le_of_ble_eq_true rfl) (by
 intro (n : Int) hds
 obtain ⟨h1, h2⟩ := hds
 obtain ⟨m, rfl⟩ := Int.eq_ofNat_of_zero_le h1
 refine st0 ?_
 refine rg ΦLn_ok [0] inE ?_
 refine rg ΦLn_ok [0, 5] inE ?_
 refine cn ?_ ?_
 ·intro h; try exact na h
  all_goals
   refine rg ΦLn_ok [2] inE ?_
   first
   | (refine fi inE ?_; exact hl)
   | exact fz (And.intro Int.toNat_natCast inE)
 ·intro h; try exact na h
  all_goals
   refine rg ΦLn_ok [0, 8] inE ?_
   refine cn ?_ ?_
   ·intro h; try exact na h
    all_goals
     have hl := byI_lenB h1 (by omega)
     refine rg ΦLn_ok [2] inE ?_
     first
     | (refine fi inE ?_; exact hl)
     | exact fz (And.intro Int.toNat_natCast inE)
   ·intro h; try exact na h
    all_goals
     refine rg ΦLn_ok [3] (And.intro Int.toNat_natCast trivial) ?_
     refine rg ΦLn_ok [3] (And.intro Int.toNat_natCast (And.intro (beB_len 8 m) trivial)) ?_
     have ht8 := tri_beB m
     have hlb := (lenB_big (n := m) (by omega)).symm
     have hby : byI (IntKind.i64.wrap (128 + ((triB (beB 8 m)).length : Int))) = UInt8.ofNat (128 + (triB (beB 8 m)).length) := by
      rw [IntKind.wrap_i64, show ((128 + ((triB (beB 8 m)).length : Int)) + 9223372036854775808) % 18446744073709551616 - 9223372036854775808 = ((128 + (triB (beB 8 m)).length : Nat) : Int) by omega]; exact byI_ofNat _ (by omega)
     have hlm : (lenB m).length ≤ 9 ∧ 1 ≤ (lenB m).length := by rw [← hlb, List.length_cons]; omega
     refine rq ΦLn_ok 7 [2] (And.intro ht8 (And.intro hby (And.intro flat2 (And.intro hlb inE)))) ?_
     first
     | (refine fi inE ?_; exact hl)
     | exact fz (And.intro Int.toNat_natCast inE))
end Go.Proofs.YtpajpkbipagjpaaGreatDoor.Oc
namespace Go.Proofs
open Go.Shelf
def Tryz.lays160_ren : Go.Shelf.Ren := ⟨fun | 160 => 336 | 232 => 259 | 231 => 349 | 227 => 260 | 234 => 261 | 233 => 350 | 236 => 262 | 235 => 351 | 228 => 310 | 271 => 311 | 151 => 312 | 197 => 236 | 120 => 339 | 152 => 340 | 260 => 280 | 137 => 303 | 119 => 352 | 224 => 327 | 225 => 326 | 217 => 325 | 266 => 345 | n => n, fun | 9 => 9 | 4 => 4 | 3 => 3 | 5 => 5 | 117 => 307 | 116 => 306 | 0 => 0 | 124 => 310 | 21 => 21 | 105 => 288 | 46 => 157 | 119 => 347 | 139 => 350 | 138 => 349 | n => n, fun | 3 => 6 | 4 => 7 | n => n⟩
theorem Tryz.lays160 : Go.Proofs.Lays.n160 Tryz.prog Tryz.lays160_ren := {
 mixed := by kernel_rfl
 f119 := Tryz.func352.trans (congrArg some (by kernel_rfl))
 f120 := Tryz.func339.trans (congrArg some (by kernel_rfl))
 f137 := Tryz.func303.trans (congrArg some (by kernel_rfl))
 f151 := Tryz.func312.trans (congrArg some (by kernel_rfl))
 f152 := Tryz.func340.trans (congrArg some (by kernel_rfl))
 f160 := Tryz.func336.trans (congrArg some (by kernel_rfl))
 f197 := Tryz.func236.trans (congrArg some (by kernel_rfl))
 f217 := Tryz.func325.trans (congrArg some (by kernel_rfl))
 f224 := Tryz.func327.trans (congrArg some (by kernel_rfl))
 f225 := Tryz.func326.trans (congrArg some (by kernel_rfl))
 f227 := Tryz.func260.trans (congrArg some (by kernel_rfl))
 f228 := Tryz.func310.trans (congrArg some (by kernel_rfl))
 f231 := Tryz.func349.trans (congrArg some (by kernel_rfl))
 f232 := Tryz.func259.trans (congrArg some (by kernel_rfl))
 f233 := Tryz.func350.trans (congrArg some (by kernel_rfl))
 f234 := Tryz.func261.trans (congrArg some (by kernel_rfl))
 f235 := Tryz.func351.trans (congrArg some (by kernel_rfl))
 f236 := Tryz.func262.trans (congrArg some (by kernel_rfl))
 f260 := Tryz.func280.trans (congrArg some (by kernel_rfl))
 f266 := Tryz.func345.trans (congrArg some (by kernel_rfl))
 f271 := Tryz.func311.trans (congrArg some (by kernel_rfl))
 t0 := Tryz.underlying0
 a0 := Tryz.isAgg0
 z0 := Tryz.sizeOf0
 v0 := Tryz.zeroValue0
 t3 := Tryz.underlying3
 a3 := Tryz.isAgg3
 z3 := Tryz.sizeOf3
 v3 := Tryz.zeroValue3
 t4 := Tryz.underlying4
 a4 := Tryz.isAgg4
 z4 := Tryz.sizeOf4
 v4 := Tryz.zeroValue4
 t5 := Tryz.underlying5
 a5 := Tryz.isAgg5
 z5 := Tryz.sizeOf5
 v5 := Tryz.zeroValue5
 t9 := Tryz.underlying9
 a9 := Tryz.isAgg9
 z9 := Tryz.sizeOf9
 v9 := Tryz.zeroValue9
 t21 := Tryz.underlying21
 a21 := Tryz.isAgg21
 z21 := Tryz.sizeOf21
 v21 := Tryz.zeroValue21
 t46 := Tryz.underlying157
 a46 := Tryz.isAgg157
 z46 := Tryz.sizeOf157
 v46 := Tryz.zeroValue157
 t105 := Tryz.underlying288
 a105 := Tryz.isAgg288
 z105 := Tryz.sizeOf288
 v105 := Tryz.zeroValue288
 t116 := Tryz.underlying306
 a116 := Tryz.isAgg306
 z116 := Tryz.sizeOf306
 t117 := Tryz.underlying307
 a117 := Tryz.isAgg307
 z117 := Tryz.sizeOf307
 v117 := Tryz.zeroValue307
 t119 := Tryz.underlying347
 a119 := Tryz.isAgg347
 z119 := Tryz.sizeOf347
 t124 := Tryz.underlying310
 a124 := Tryz.isAgg310
 z124 := Tryz.sizeOf310
 v124 := Tryz.zeroValue310
 t138 := Tryz.underlying349
 a138 := Tryz.isAgg349
 z138 := Tryz.sizeOf349
 v138 := Tryz.zeroValue349
 t139 := Tryz.underlying350
 a139 := Tryz.isAgg350
 z139 := Tryz.sizeOf350
 v139 := Tryz.zeroValue350
 g3 := by kernel_rfl
 g4 := by kernel_rfl }
def Tryz.lays104_ren : Go.Shelf.Ren := ⟨fun | 104 => 335 | 211 => 348 | 207 => 314 | n => n, fun | 9 => 9 | 4 => 4 | 24 => 274 | 3 => 3 | n => n, fun | n => n⟩
theorem Tryz.lays104 : Go.Proofs.Lays.n104 Tryz.prog Tryz.lays104_ren := {
 mixed := by kernel_rfl
 f104 := Tryz.func335.trans (congrArg some (by kernel_rfl))
 f207 := Tryz.func314.trans (congrArg some (by kernel_rfl))
 f211 := Tryz.func348.trans (congrArg some (by kernel_rfl))
 t3 := Tryz.underlying3
 a3 := Tryz.isAgg3
 z3 := Tryz.sizeOf3
 v3 := Tryz.zeroValue3
 t4 := Tryz.underlying4
 a4 := Tryz.isAgg4
 z4 := Tryz.sizeOf4
 v4 := Tryz.zeroValue4
 t9 := Tryz.underlying9
 a9 := Tryz.isAgg9
 z9 := Tryz.sizeOf9
 v9 := Tryz.zeroValue9
 t24 := Tryz.underlying274
 a24 := Tryz.isAgg274
 z24 := Tryz.sizeOf274
 v24 := Tryz.zeroValue274 }
open Go.RowKit in
theorem Tryz.strings_CutSuffix (s p : ByteArray) (w : World) (hs : s.size ≤ 9223372036854775807) :
 Calls Tryz.prog 335 #[.string s, .string p] w fun e w' => e = .returned (.tuple #[.string ⟨(Lib.trimSuffix s.data.toList p.data.toList).toArray⟩, .bool (Lib.hasSuffix s.data.toList p.data.toList)]) ∧ w' = w := Any.strings_CutSuffix Tryz.lays104 s p w hs
def Tryz.lays100_ren : Go.Shelf.Ren := ⟨fun | 100 => 337 | 207 => 314 | n => n, fun | 9 => 9 | 4 => 4 | 3 => 3 | n => n, fun | n => n⟩
theorem Tryz.lays100 : Go.Proofs.Lays.n100 Tryz.prog Tryz.lays100_ren := {
 mixed := by kernel_rfl
 f100 := Tryz.func337.trans (congrArg some (by kernel_rfl))
 f207 := Tryz.func314.trans (congrArg some (by kernel_rfl))
 t3 := Tryz.underlying3
 a3 := Tryz.isAgg3
 z3 := Tryz.sizeOf3
 v3 := Tryz.zeroValue3
 t4 := Tryz.underlying4
 a4 := Tryz.isAgg4
 z4 := Tryz.sizeOf4
 v4 := Tryz.zeroValue4
 t9 := Tryz.underlying9
 a9 := Tryz.isAgg9
 z9 := Tryz.sizeOf9
 v9 := Tryz.zeroValue9 }
open Go.RowKit Go.Lib in
theorem Tryz.strings_HasSuffix (s p : ByteArray) (w : World) (hs : s.size ≤ 9223372036854775807) :
 Calls Tryz.prog 337 #[.string s, .string p] w fun e w' => e = .returned (.bool (Lib.hasSuffix s.data.toList p.data.toList)) ∧ w' = w := Any.strings_HasSuffix Tryz.lays100 s p w hs
end Go.Proofs
namespace Go.Proofs.YtpajpkbipagjpaaGreatDoor.Oc
open Go Go.RowKit Go.Proofs.YtpajpkbipagjpaaGreatDoor.Vm Go.Proofs.YtpajpkbipagjpaaGreatDoor.Tr Go.IntWalk
set_option maxRecDepth 100000
set_option maxHeartbeats 4000000
def strA (x : List UInt8 × List UInt8) : List Vm.Data := [.str x.1, .str x.2]
theorem strA_inj (x y : List UInt8 × List UInt8) (h : strA x = strA y) : x = y := by simpa [strA, Prod.ext_iff] using h
noncomputable def trimF : PFn := PFn.of strA (fun x => x.1.length ≤ 9223372036854775807 ∧ x.2.length < 4294967281 ∧ (x.2.all fun b => decide (b.toNat < 128)) = true) (fun x => [.str (Lib.trimS x.1 x.2)])
@[go_sem] theorem trim_pre (s c : List UInt8) : trimF.pre [.str s, .str c] = (s.length ≤ 9223372036854775807 ∧ c.length < 4294967281 ∧ (c.all fun b => decide (b.toNat < 128)) = true) := PFn.of_pre strA_inj (s, c)
@[go_sem] theorem trim_res (s c : List UInt8) : trimF.res [.str s, .str c] = [.str (Lib.trimS s c)] := PFn.of_res strA_inj (s, c)
theorem trim_ok : Pure E 336 trimF := by
 refine Pure.of_calls strA_inj ?_
 rintro w J args ⟨s, c⟩ hJ hG hargs ⟨h1, h2, h3⟩
 obtain ⟨v, v2, rfl, e1, e2⟩ := args2 hargs
 simp only [RV] at e1 e2
 subst e1 e2
 refine (Any.strings_Trim_laid Tryz.lays160 (by kernel_rfl) ⟨s.toArray⟩ ⟨c.toArray⟩ w (by simpa [ByteArray.size] using h1) (by simpa [ByteArray.size] using h2) (ascii_of_all (by simpa using h3))).mono ?_
 rintro e w' ⟨rfl, hB⟩
 exact ⟨_, rfl, hB, by simp only [retD, RVD, RV]⟩
noncomputable def csufF : PFn := PFn.of strA (fun x => x.1.length ≤ 9223372036854775807) (fun x => [.str (Lib.trimSuffix x.1 x.2), .bool (Lib.hasSuffix x.1 x.2)])
@[go_sem] theorem csuf_pre (s c : List UInt8) : csufF.pre [.str s, .str c] = (s.length ≤ 9223372036854775807) := PFn.of_pre strA_inj (s, c)
@[go_sem] theorem csuf_res (s c : List UInt8) : csufF.res [.str s, .str c] = [.str (Lib.trimSuffix s c), .bool (Lib.hasSuffix s c)] := PFn.of_res strA_inj (s, c)
theorem csuf_ok : Pure E 335 csufF := by
 refine Pure.of_calls strA_inj ?_
 rintro w J args ⟨s, c⟩ hJ hG hargs h1
 obtain ⟨v, v2, rfl, e1, e2⟩ := args2 hargs
 simp only [RV] at e1 e2
 subst e1 e2
 refine (Tryz.strings_CutSuffix ⟨s.toArray⟩ ⟨c.toArray⟩ w (by simpa [ByteArray.size] using h1)).mono ?_
 rintro e w' ⟨rfl, rfl⟩
 exact ⟨_, rfl, Below.refl _ _, by simp [retD, RVD, RVDs, RV]⟩
noncomputable def hsufF : PFn := PFn.of strA (fun x => x.1.length ≤ 9223372036854775807) (fun x => [.bool (Lib.hasSuffix x.1 x.2)])
@[go_sem] theorem hsuf_pre (s c : List UInt8) : hsufF.pre [.str s, .str c] = (s.length ≤ 9223372036854775807) := PFn.of_pre strA_inj (s, c)
@[go_sem] theorem hsuf_res (s c : List UInt8) : hsufF.res [.str s, .str c] = [.bool (Lib.hasSuffix s c)] := PFn.of_res strA_inj (s, c)
theorem hsuf_ok : Pure E 337 hsufF := by
 refine Pure.of_calls strA_inj ?_
 rintro w J args ⟨s, c⟩ hJ hG hargs h1
 obtain ⟨v, v2, rfl, e1, e2⟩ := args2 hargs
 simp only [RV] at e1 e2
 subst e1 e2
 refine (Tryz.strings_HasSuffix ⟨s.toArray⟩ ⟨c.toArray⟩ w (by simpa [ByteArray.size] using h1)).mono ?_
 rintro e w' ⟨rfl, rfl⟩
 exact ⟨_, rfl, Below.refl _ _, by simp only [retD, RVD, RV]⟩
end Go.Proofs.YtpajpkbipagjpaaGreatDoor.Oc
namespace Go.Proofs.YtpajpkbipagjpaaGreatDoor.Oc
open Go Go.RowKit Go.Proofs.YtpajpkbipagjpaaGreatDoor.Vm Go.Proofs.YtpajpkbipagjpaaGreatDoor.Tr Go.IntWalk
set_option maxRecDepth 100000
set_option maxHeartbeats 4000000
def digB : List UInt8 := [48, 49, 50, 51, 52, 53, 54, 55, 56, 57]
theorem dig_ok : ([48, 49, 50, 51, 52, 53, 54, 55, 56, 57] : List UInt8).length < 4294967281 ∧ (([48, 49, 50, 51, 52, 53, 54, 55, 56, 57] : List UInt8).all fun b => decide (b.toNat < 128)) = true := by decide
def numT (s : List UInt8) : Int := if Lib.trimS s digB = [] then (((s.getD 0 0).toNat : Int) - 48) % 256 * 10 + (((s.getD 1 0).toNat : Int) - 48) % 256 else -1
theorem numT_no {s : List UInt8} (h : ¬ Lib.trimS s [48, 49, 50, 51, 52, 53, 54, 55, 56, 57] = []) : numT s = -1 := if_neg h
theorem numT_yes {s : List UInt8} (h : Lib.trimS s [48, 49, 50, 51, 52, 53, 54, 55, 56, 57] = []) : numT s = (((s.getD 0 0).toNat : Int) - 48) % 256 * 10 + (((s.getD 1 0).toNat : Int) - 48) % 256 := if_pos h
theorem numT_in (s : List UInt8) : -1 ≤ numT s ∧ numT s ≤ 2805 := by
 unfold numT
 split <;> omega
theorem wr8 (n : Int) : IntKind.u8.wrap n = n % 256 := by rw [IntKind.wrap_u8]
theorem byteN (s : List UInt8) : byteAt s 0 = s.getD 0 0 ∧ byteAt s 1 = s.getD 1 0 := ⟨rfl, rfl⟩
noncomputable def ΦNU : Fns := tab [(336, trimF)]
theorem ΦNU_ok : Sound E ΦNU := sound_cons (by kernel_rfl) trim_ok (sound_nil)
@[go_sem] theorem ΦNU_r : ΦNU 336 = some trimF := rfl
@[go_sem] noncomputable def numberF : PFn := PF [SS] (fun (s : List UInt8) => s.length = 2) (fun (s : List UInt8) => [.int .i64 (numT s)])
theorem number_ok : Pure E 333 numberF := Pure.of_sig (rs := [.tmp 2]) (n := 16) Tryz.func333 rfl rfl rfl (Nat.le_of_ble_eq_true rfl) (by
 intro (s : List UInt8) hds
 refine st0 ?_
 refine rg ΦNU_ok [0] dig_ok ?_
 refine rg ΦNU_ok [0, 5] dig_ok ?_
 refine cn ?_ ?_
 ·intro h; try exact na h
  all_goals
   have hy := numT_no (s := s) (by simp_all)
   refine rg ΦNU_ok [2] dig_ok ?_
   first
   | exact fz hy
   | (refine fi trivial ?_; fail)
 ·intro h; try exact na h
  all_goals
   have hy := numT_yes (s := s) (by simp_all)
   refine rd ΦNU_ok 11 [2] (And.intro wr8 byteN) ?_
   first
   | exact fz hy
   | (refine fi trivial ?_; fail))
end Go.Proofs.YtpajpkbipagjpaaGreatDoor.Oc
namespace Go.Proofs.YtpajpkbipagjpaaGreatDoor.Oc
open Go Go.RowKit Go.Proofs.YtpajpkbipagjpaaGreatDoor.Vm Go.Proofs.YtpajpkbipagjpaaGreatDoor.Tr Go.IntWalk
set_option maxRecDepth 100000
set_option maxHeartbeats 4000000
def mdays (m : Int) : Int := ([31, 28, 31, 30, 31, 30, 31, 31, 30, 31, 30, 31] : List Int).getD (m - 1).toNat 0
def leapI (y : Int) : Bool := decide (y % 4 = 0) && (decide (¬ y % 100 = 0) || decide (y % 400 = 0))
def inI (n m : Int) : Bool := decide (0 ≤ n) && decide (n ≤ m)
def dateB (y : Int) (s : List UInt8) : Bool :=
 let m := numT (s.take 2)
 let d := numT ((s.drop 2).take 2)
 if m < 1 ∨ 12 < m ∨ y < 0 then false
 else (decide (1 ≤ d) && decide (d ≤ mdays m + if m = 2 ∧ leapI y = true then 1 else 0)) && (inI (numT ((s.drop 4).take 2)) 23 && (inI (numT ((s.drop 6).take 2)) 59 && inI (numT ((s.drop 8).take 2)) 59))
theorem mdays_at {m : Int} (h : 1 ≤ m) (h2 : m ≤ 12) : ([[Vm.Data.int .i64 31], [Vm.Data.int .i64 28], [Vm.Data.int .i64 31], [Vm.Data.int .i64 30], [Vm.Data.int .i64 31], [Vm.Data.int .i64 30], [Vm.Data.int .i64 31], [Vm.Data.int .i64 31], [Vm.Data.int .i64 30], [Vm.Data.int .i64 31], [Vm.Data.int .i64 30], [Vm.Data.int .i64 31]] : List (List Vm.Data)).getD (m - 1).toNat [] = [.int .i64 (mdays m)] := by
 have : ∀ k : Fin 12, ([[Vm.Data.int .i64 31], [Vm.Data.int .i64 28], [Vm.Data.int .i64 31], [Vm.Data.int .i64 30], [Vm.Data.int .i64 31], [Vm.Data.int .i64 30], [Vm.Data.int .i64 31], [Vm.Data.int .i64 31], [Vm.Data.int .i64 30], [Vm.Data.int .i64 31], [Vm.Data.int .i64 30], [Vm.Data.int .i64 31]] : List (List Vm.Data)).getD k.val [] = [.int .i64 (([31, 28, 31, 30, 31, 30, 31, 31, 30, 31, 30, 31] : List Int).getD k.val 0)] := by
  intro k
  match k with
  | ⟨0, _⟩ | ⟨1, _⟩ | ⟨2, _⟩ | ⟨3, _⟩ | ⟨4, _⟩ | ⟨5, _⟩ | ⟨6, _⟩ | ⟨7, _⟩ | ⟨8, _⟩ | ⟨9, _⟩ | ⟨10, _⟩ | ⟨11, _⟩ => rfl
 exact this ⟨(m - 1).toNat, by omega⟩
theorem mdays_in (m : Int) : 0 ≤ mdays m ∧ mdays m ≤ 31 := by
 have : ∀ k : Nat, 0 ≤ ([31, 28, 31, 30, 31, 30, 31, 31, 30, 31, 30, 31] : List Int).getD k 0 ∧ ([31, 28, 31, 30, 31, 30, 31, 31, 30, 31, 30, 31] : List Int).getD k 0 ≤ 31 := by
  intro k
  rcases Nat.lt_or_ge k 12 with h | h
  ·have : ∀ k : Fin 12, 0 ≤ ([31, 28, 31, 30, 31, 30, 31, 31, 30, 31, 30, 31] : List Int).getD k.val 0 ∧ ([31, 28, 31, 30, 31, 30, 31, 31, 30, 31, 30, 31] : List Int).getD k.val 0 ≤ 31 := by decide
   exact this ⟨k, h⟩
  ·rw [List.getD_eq_getElem?_getD, List.getElem?_eq_none h]; decide
 exact this _
theorem date_no {y : Int} {s : List UInt8} (h : numT (s.take 2) < 1 ∨ 12 < numT (s.take 2) ∨ y < 0) : dateB y s = false := if_pos h
theorem date_yes {y : Int} {s : List UInt8} (h : ¬ (numT (s.take 2) < 1 ∨ 12 < numT (s.take 2) ∨ y < 0)) : dateB y s = ((decide (1 ≤ numT ((s.drop 2).take 2)) && decide (numT ((s.drop 2).take 2) ≤ mdays (numT (s.take 2)) + if numT (s.take 2) = 2 ∧ leapI y = true then 1 else 0)) && (inI (numT ((s.drop 4).take 2)) 23 && (inI (numT ((s.drop 6).take 2)) 59 && inI (numT ((s.drop 8).take 2)) 59))) := if_neg h
theorem tk2 {s : List UInt8} {k : Nat} (h : s.length = 10) (hk : k ≤ 8) : ((s.drop k).take 2).length = 2 := by rw [List.length_take, List.length_drop]; omega
@[go_sem] noncomputable def incF : PFn := PF [SI .i64, SI .i64] (fun (n : Int) (m : Int) => True) (fun (n : Int) (m : Int) => [.bool (inI n m)])
theorem inc_ok : Pure E 347 incF := Pure.of_sig (rs := [.tmp 4]) (n := 12) Tryz.func347 rfl rfl rfl (Nat.le_of_ble_eq_true rfl) (by
 intro (n : Int) (m : Int) hds
 refine st0 ?_
 refine rg sound_nil [0, 1] trivial ?_
 refine rB sound_nil [4] trivial fun K' hK => ?_
 repeat' first | (refine lf hK trivial ?_; clear hK K') | with_reducible apply And.intro | refine sA trivial (fun _ => ?_) fun _ => ?_ | refine sAb trivial (fun _ => ?_) fun _ => ?_ | refine sAl trivial (fun g => ?_) fun g => ?_ | exact sd | exact sde trivial | exact sdp trivial | refine stk trivial ?_ | fail
 all_goals
  refine fi trivial ?_
  unfold inI
  first | rfl | (rw [decide_eq_false (by assumption)]; rfl) | (simp_all; done))
noncomputable def ΦDA : Fns := tab [(333, numberF), (347, incF)]
theorem ΦDA_ok : Sound E ΦDA := sound_cons (by kernel_rfl) number_ok (sound_cons (by kernel_rfl) inc_ok (sound_nil))
@[go_sem] theorem ΦDA_r : ΦDA 333 = some numberF ∧ ΦDA 347 = some incF := ⟨rfl, rfl⟩
@[go_sem] noncomputable def dateTF : PFn := PF [SI .i64, SS] (fun (y : Int) (s : List UInt8) => s.length = 10 ∧ -1000000 ≤ y ∧ y ≤ 1000000) (fun (y : Int) (s : List UInt8) => [.bool (dateB y s)])
theorem dateT_ok : Pure E 334 dateTF := Pure.of_sig (rs := [.tmp 4]) (n := 77) Tryz.func334 rfl rfl rfl (Nat.le_of_ble_eq_true rfl) (by
 intro (y : Int) (s : List UInt8) hds
 have hE := And.intro (by decide : Int.toNat 2 = 2) (And.intro (tk2 (k := 0) hds.1 (by omega)) (And.intro (tk2 (k := 2) hds.1 (by omega)) (And.intro (tk2 (k := 4) hds.1 (by omega)) (And.intro (tk2 (k := 6) hds.1 (by omega)) (tk2 (k := 8) hds.1 (by omega))))))
 have h1 := numT_in (s.take 2)
 have h2 := numT_in ((s.drop 2).take 2)
 refine st0 ?_
 refine rg ΦDA_ok [0, 1] hE ?_
 refine rd ΦDA_ok 8 [0, 1, 5, 6] hE ?_
 refine rB ΦDA_ok [0, 1, 5, 6, 24] hE fun K' hK => ?_
 repeat' first | (refine lf hK hE ?_; clear hK K') | with_reducible apply And.intro | refine sA hE (fun _ => ?_) fun _ => ?_ | refine sAb hE (fun _ => ?_) fun _ => ?_ | refine sAl hE (fun g => ?_) fun g => ?_ | exact sd | exact sde hE | exact sdp hE | refine stk hE ?_ | fail
 all_goals
  refine cn ?_ ?_
  ·intro h; try exact na h
   all_goals
    have hy : dateB y s = false := date_no (by (try simp only [Bool.not_eq_eq_eq_not, Bool.not_true, Bool.not_false, decide_eq_false_iff_not, decide_eq_true_eq] at *); omega)
    refine rg ΦDA_ok [4] hE ?_
    exact fz hy
  ·intro h; try exact na h
   all_goals
    have hm : ¬ (numT (s.take 2) < 1 ∨ 12 < numT (s.take 2) ∨ y < 0) := by (try simp only [Bool.not_eq_eq_eq_not, Bool.not_true, Bool.not_false, decide_eq_false_iff_not, decide_eq_true_eq] at *); omega
    have hday := mdays_at (m := numT (s.take 2)) (by omega) (by omega)
    have hwm : IntKind.i64.wrap (numT (s.take 2) - 1) = numT (s.take 2) - 1 := by rw [IntKind.wrap_i64]; omega
    have hmi := mdays_in (numT (s.take 2))
    refine rq ΦDA_ok 1 [0, 1, 5, 6, 7] (And.intro hwm hday) ?_
    refine rB ΦDA_ok [1, 6, 7, 46] hE fun K' hK => ?_
    repeat' first | (refine lf hK hE ?_; clear hK K') | with_reducible apply And.intro | refine sA hE (fun _ => ?_) fun _ => ?_ | refine sAb hE (fun _ => ?_) fun _ => ?_ | refine sAl hE (fun g => ?_) fun g => ?_ | exact sd | exact sde hE | exact sdp hE | refine stk hE ?_ | fail
    all_goals
     refine cn ?_ ?_
     ·intro h; try exact na h
      all_goals
       refine rgL ΦDA_ok hE ?_
       refine rg ΦDA_ok [1, 6, 7, 8] hE ?_
       refine rB ΦDA_ok [4] hE fun K' hK => ?_
       repeat' first | (refine lf hK hE ?_; clear hK K') | with_reducible apply And.intro | refine sA hE (fun _ => ?_) fun _ => ?_ | refine sAb hE (fun _ => ?_) fun _ => ?_ | refine sAl hE (fun g => ?_) fun g => ?_ | exact sd | exact sde hE | exact sdp hE | refine stk hE ?_ | fail
       all_goals
        refine fi trivial ?_
        all_goals
         (rw [date_yes hm]
          unfold leapI
          simp only [Int.tmod_eq_emod_of_nonneg (show 0 ≤ y by omega), show (4 - 2 : Int).toNat = 2 from rfl, show (6 - 4 : Int).toNat = 2 from rfl, show (8 - 6 : Int).toNat = 2 from rfl, show (10 - 8 : Int).toNat = 2 from rfl, show Int.toNat 4 = 4 from rfl, show Int.toNat 6 = 6 from rfl, show Int.toNat 8 = 8 from rfl] at *
          first | (simp_all; done) | (simp_all; omega))
     ·intro h; try exact na h
      all_goals
       refine rg ΦDA_ok [1, 6, 7, 8] hE ?_
       refine rB ΦDA_ok [4] hE fun K' hK => ?_
       repeat' first | (refine lf hK hE ?_; clear hK K') | with_reducible apply And.intro | refine sA hE (fun _ => ?_) fun _ => ?_ | refine sAb hE (fun _ => ?_) fun _ => ?_ | refine sAl hE (fun g => ?_) fun g => ?_ | exact sd | exact sde hE | exact sdp hE | refine stk hE ?_ | fail
       all_goals
        refine fi trivial ?_
        all_goals
         (rw [date_yes hm]
          unfold leapI
          simp only [Int.tmod_eq_emod_of_nonneg (show 0 ≤ y by omega), show (4 - 2 : Int).toNat = 2 from rfl, show (6 - 4 : Int).toNat = 2 from rfl, show (8 - 6 : Int).toNat = 2 from rfl, show (10 - 8 : Int).toNat = 2 from rfl, show Int.toNat 4 = 4 from rfl, show Int.toNat 6 = 6 from rfl, show Int.toNat 8 = 8 from rfl] at *
          first | (simp_all; done) | (simp_all; omega)))
end Go.Proofs.YtpajpkbipagjpaaGreatDoor.Oc

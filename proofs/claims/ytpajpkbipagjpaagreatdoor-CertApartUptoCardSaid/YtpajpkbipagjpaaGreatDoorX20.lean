/- What functions of the program, of its library and of the document compute: their contracts, and laws about what they compute (X20). No condition. -/
import Derived.Test.YtpajpkbipagjpaaGreatDoorX19
import Derived.Test.YtpajpkbipagjpaaGreatDoorX09
import Derived.Test.YtpajpkbipagjpaaGreatDoorX13
import Derived.Test.YtpajpkbipagjpaaGreatDoorX10
import Derived.Test.YtpajpkbipagjpaaGreatDoorX14
import Derived.Test.YtpajpkbipagjpaaGreatDoorX06
import Derived.Test.YtpajpkbipagjpaaGreatDoorX15
import Derived.Test.YtpajpkbipagjpaaGreatDoorX16
import Derived.Test.YtpajpkbipagjpaaGreatDoorX07
import Derived.Test.YtpajpkbipagjpaaGreatDoorX04
set_option linter.unusedVariables false
set_option linter.unusedSimpArgs false
namespace Go.Proofs.YtpajpkbipagjpaaGreatDoor.Tr
open Go Go.RowKit Go.Proofs.YtpajpkbipagjpaaGreatDoor.Vm
structure Ex where
 oid : List UInt8
 crit : Bool
 val : List UInt8
 deriving Inhabited, DecidableEq
def Ex.zero : Ex := ⟨[], false, []⟩
theorem ex_eta (x : Ex) : Ex.mk x.oid x.crit x.val = x := rfl
def exC (x : Ex) : List Vm.Data := [.lst (bytesD x.oid), .bool x.crit, .lst (bytesD x.val)]
theorem exC_eq (x : Ex) : exC x = [.lst (bytesD x.oid), .bool x.crit, .lst (bytesD x.val)] := rfl
def exsD (l : List Ex) : List (List Vm.Data) := l.map exC
theorem exsD_cons (r : Ex) (l : List Ex) : exsD (r :: l) = exC r :: exsD l := rfl
theorem exsD_len (l : List Ex) : (exsD l).length = l.length := by simp [exsD]
theorem exsD_take (l : List Ex) (n : Nat) : (exsD l).take n = exsD (l.take n) := by simp only [exsD, List.map_take]
theorem exsD_at {l : List Ex} {k : Nat} (h : k < l.length) : (exsD l).getD k [] = [.lst (bytesD (l.getD k Ex.zero).oid), .bool (l.getD k Ex.zero).crit, .lst (bytesD (l.getD k Ex.zero).val)] := by
 rw [exsD, List.getD_eq_getElem?_getD, List.getElem?_map, List.getElem?_eq_getElem h, List.getD_eq_getElem?_getD, List.getElem?_eq_getElem h]
 rfl
theorem exsD_three (l : List Ex) : (∀ x ∈ exsD l, x.length = 3) = True := by
 simp only [exsD, List.mem_map, eq_iff_iff, iff_true]
 rintro x ⟨t, _, rfl⟩
 rfl
theorem exC_inj {a b : Ex} (h : exC a = exC b) : a = b := by
 cases a; cases b
 simp only [exC, List.cons.injEq, Vm.Data.lst.injEq, Vm.Data.bool.injEq, and_true] at h
 obtain ⟨h1, rfl, h3⟩ := h
 rw [bytesD_inj.1 h1, bytesD_inj.1 h3]
theorem exsD_inj : ∀ {a b : List Ex}, exsD a = exsD b ↔ a = b := by
 intro a
 induction a with
 | nil => intro b; cases b <;> simp [exsD]
 | cons x a ih =>
   intro b
   cases b with
   | nil => simp [exsD]
   | cons y b =>
     rw [exsD_cons, exsD_cons]
     constructor
     ·intro h
      injection h with h1 h2
      rw [exC_inj h1, ih.1 h2]
     ·intro h; injection h with h1 h2; rw [h1, h2]
structure Ky where
 n : List UInt8
 e : List UInt8
 d : List UInt8
 deriving Inhabited, DecidableEq
theorem ky_eta (k : Ky) : Ky.mk k.n k.e k.d = k := rfl
def kyC (k : Ky) : List Vm.Data := [.lst (bytesD k.n), .lst (bytesD k.e), .lst (bytesD k.d)]
theorem kyC_eq (k : Ky) : kyC k = [.lst (bytesD k.n), .lst (bytesD k.e), .lst (bytesD k.d)] := rfl
theorem kyC_inj {a b : Ky} (h : kyC a = kyC b) : a = b := by
 cases a; cases b
 simp only [kyC, List.cons.injEq, Vm.Data.lst.injEq, and_true] at h
 rw [bytesD_inj.1 h.1, bytesD_inj.1 h.2.1, bytesD_inj.1 h.2.2]
structure Ce where
 ser : List UInt8
 way : Int
 hash : Int
 iss : List Rd
 frm : Int
 til : Int
 sub : List Rd
 key : Ky
 exts : List Ex
 sig : List UInt8
 deriving Inhabited, DecidableEq
def ceC (c : Ce) : List Vm.Data := [.lst (bytesD c.ser), .int .i64 c.way, .int .i64 c.hash, .lst (rdsD c.iss), .int .i64 c.frm, .int .i64 c.til, .lst (rdsD c.sub), .lst (bytesD c.key.n), .lst (bytesD c.key.e), .lst (bytesD c.key.d), .lst (exsD c.exts), .lst (bytesD c.sig)]
theorem ceC_eq (c : Ce) : ceC c = [.lst (bytesD c.ser), .int .i64 c.way, .int .i64 c.hash, .lst (rdsD c.iss), .int .i64 c.frm, .int .i64 c.til, .lst (rdsD c.sub), .lst (bytesD c.key.n), .lst (bytesD c.key.e), .lst (bytesD c.key.d), .lst (exsD c.exts), .lst (bytesD c.sig)] := rfl
theorem ce_eta (c : Ce) : Ce.mk c.ser c.way c.hash c.iss c.frm c.til c.sub c.key c.exts c.sig = c := rfl
theorem ceC_inj {a b : Ce} (h : ceC a = ceC b) : a = b := by
 obtain ⟨_, _, _, _, _, _, _, ⟨_, _, _⟩, _, _⟩ := a
 obtain ⟨_, _, _, _, _, _, _, ⟨_, _, _⟩, _, _⟩ := b
 simp only [ceC, List.cons.injEq, Vm.Data.lst.injEq, Vm.Data.int.injEq, true_and, and_true, bytesD_inj, rdsD_inj, exsD_inj] at h
 obtain ⟨rfl, rfl, rfl, rfl, rfl, rfl, rfl, rfl, rfl, rfl, rfl, rfl⟩ := h
 rfl
@[reducible] def SEx : Sig := ⟨Ex, fun t => .agg (exC t), fun _ _ h => by injection h with h; exact exC_inj h⟩
@[reducible] def SKy : Sig := ⟨Ky, fun t => .agg (kyC t), fun _ _ h => by injection h with h; exact kyC_inj h⟩
@[reducible] def SCe : Sig := ⟨Ce, fun t => .agg (ceC t), fun _ _ h => by injection h with h; exact ceC_inj h⟩
section
variable {β : Type} {z : β} {ss : List Sig} {ds : List Vm.Data}
theorem ap_SEx {f : Fun (SEx :: ss) β} {s v : List UInt8} {b : Bool} : ap z (SEx :: ss) f (.agg [.lst (bytesD s), .bool b, .lst (bytesD v)] :: ds) = ap z ss (f ⟨s, b, v⟩) ds := by
 rw [ap_cons, show SEx.dec (.agg [.lst (bytesD s), .bool b, .lst (bytesD v)]) = some ⟨s, b, v⟩ from SEx.dec_enc ⟨s, b, v⟩, apO_some]
theorem ap_SKy {f : Fun (SKy :: ss) β} {n e d : List UInt8} : ap z (SKy :: ss) f (.agg [.lst (bytesD n), .lst (bytesD e), .lst (bytesD d)] :: ds) = ap z ss (f ⟨n, e, d⟩) ds := by
 rw [ap_cons, show SKy.dec (.agg [.lst (bytesD n), .lst (bytesD e), .lst (bytesD d)]) = some ⟨n, e, d⟩ from SKy.dec_enc ⟨n, e, d⟩, apO_some]
theorem ap_SCe {f : Fun (SCe :: ss) β} {s n e d g : List UInt8} {w h a b : Int} {i j : List Rd} {x : List Ex} : ap z (SCe :: ss) f (.agg [.lst (bytesD s), .int .i64 w, .int .i64 h, .lst (rdsD i), .int .i64 a, .int .i64 b, .lst (rdsD j), .lst (bytesD n), .lst (bytesD e), .lst (bytesD d), .lst (exsD x), .lst (bytesD g)] :: ds) = ap z ss (f ⟨s, w, h, i, a, b, j, ⟨n, e, d⟩, x, g⟩) ds := by
 rw [ap_cons, show SCe.dec (.agg [.lst (bytesD s), .int .i64 w, .int .i64 h, .lst (rdsD i), .int .i64 a, .int .i64 b, .lst (rdsD j), .lst (bytesD n), .lst (bytesD e), .lst (bytesD d), .lst (exsD x), .lst (bytesD g)]) = some ⟨s, w, h, i, a, b, j, ⟨n, e, d⟩, x, g⟩ from SCe.dec_enc ⟨s, w, h, i, a, b, j, ⟨n, e, d⟩, x, g⟩, apO_some]
end
attribute [go_sem] ex_eta exC_eq kyC_eq ky_eta ceC_eq ce_eta ap_SEx ap_SKy ap_SCe exsD_len exsD_three exsD_take
end Go.Proofs.YtpajpkbipagjpaaGreatDoor.Tr
namespace Go.Proofs.YtpajpkbipagjpaaGreatDoor.Oc
open Go Go.RowKit Go.Proofs.YtpajpkbipagjpaaGreatDoor.Vm Go.Proofs.YtpajpkbipagjpaaGreatDoor.Tr Go.IntWalk
set_option maxRecDepth 100000
set_option maxHeartbeats 4000000
def pairT (k : Ky) : T := seqT [natT k.n, natT k.e]
def keyT (k : Ky) : T := seqT [seqT [primT 6 (namedB [114, 115, 97]), primT 5 []], bitT (dencB (pairT k))]
theorem numB_len (b : List UInt8) : (numB b).length ≤ b.length + 1 := by unfold numB; split <;> simp
theorem denc_len (t : T) : (dencB t).length ≤ 65536 := by
 unfold dencB
 split
 ·rename_i h; exact (dszE_0 h).2.1
 ·simp
theorem noSet_mk {c g : Int} {b : Bool} {s : List UInt8} {ks : List T} (h : ¬ (c = 0 ∧ g = 17)) (hk : ∀ x ∈ ks, noSet x) : noSet (.mk c g b s ks) := by
 intro x hx
 rw [T.all_eq] at hx
 rcases List.mem_cons.1 hx with rfl | hx
 ·exact h
 ·have key : ∀ l : List T, (∀ x ∈ l, noSet x) → ∀ x ∈ T.alls l, ¬ (x.cls = 0 ∧ x.tag = 17) := by
   intro l
   induction l with
   | nil => intro _ x hx; rw [T.alls_nil] at hx; cases hx
   | cons y l ih =>
     intro hl x hx
     rw [T.alls_cons] at hx
     rcases List.mem_append.1 hx with hx | hx
     ·exact hl y (by simp) x hx
     ·exact ih (fun z hz => hl z (by simp [hz])) x hx
  exact key ks hk x hx
theorem prim_noSet {g : Int} (b : List UInt8) (h : ¬ g = 17) : noSet (primT g b) := noSet_mk (fun h2 => h h2.2) (fun x hx => by cases hx)
theorem pair_noSet (k : Ky) : noSet (pairT k) := noSet_mk (by decide) (fun x hx => by
 rcases List.mem_cons.1 hx with rfl | hx
 ·exact prim_noSet _ (by decide)
 ·rcases List.mem_cons.1 hx with rfl | hx
  ·exact prim_noSet _ (by decide)
  ·cases hx)
theorem natT_sz (b : List UInt8) : (natT b).sz ≤ b.length + 10 := by
 have := numB_len b
 have h := T.sz_eq (natT b)
 have h2 : (natT b).bytes = numB b := rfl
 have h3 : (natT b).kids = [] := rfl
 rw [h2, h3, T.szs_nil] at h
 omega
theorem bit_sz (b : List UInt8) : (bitT b).sz = 6 + b.length := by rw [bitT, szE.2.2.2.2.2.2, List.length_cons]; omega
theorem pair_sz (k : Ky) : (pairT k).sz ≤ k.n.length + k.e.length + 30 := by
 have h1 := natT_sz k.n
 have h2 := natT_sz k.e
 have h := T.sz_eq (pairT k)
 have h3 : (pairT k).bytes = [] := rfl
 have h4 : (pairT k).kids = [natT k.n, natT k.e] := rfl
 rw [h3, h4, T.szs_cons, T.szs_cons, T.szs_nil, List.length_nil] at h
 omega
noncomputable def ΦKe : Fns := tab [(169, cnumF), (62, cseqF), (37, gencodeF), (59, cnamedF), (61, cprimF), (123, cbitsF)]
theorem ΦKe_ok : Sound E ΦKe := sound_cons (by kernel_rfl) cnum_ok (sound_cons (by kernel_rfl) cseq_ok (sound_cons (by kernel_rfl) gencode_ok (sound_cons (by kernel_rfl) cnamed_ok (sound_cons (by kernel_rfl) cprim_ok (sound_cons (by kernel_rfl) cbits_ok (sound_nil))))))
@[go_sem] theorem ΦKe_r : ΦKe 169 = some cnumF ∧ ΦKe 62 = some cseqF ∧ ΦKe 37 = some gencodeF ∧ ΦKe 59 = some cnamedF ∧ ΦKe 61 = some cprimF ∧ ΦKe 123 = some cbitsF := ⟨rfl, rfl, rfl, rfl, rfl, rfl⟩
@[go_sem] noncomputable def ckeyF : PFn := PF [SKy] (fun (k : Ky) => k.n.length ≤ 100000 ∧ k.e.length ≤ 100000) (fun (k : Ky) => [nodeD (keyT k)])
theorem ckey_ok : Pure E 121 ckeyF := Pure.of_sig (rs := [.cell 2 25]) (n := 25) Tryz.func121 rfl rfl rfl (Nat.le_of_ble_eq_true rfl) (by
 intro (k : Ky) hds
 obtain ⟨h1, h2⟩ := hds
 have hn1 := natT_sz k.n
 have hn2 := natT_sz k.e
 have hps := pair_sz k
 have hns := pair_noSet k
 have hdl := denc_len (pairT k)
 have hbs := bit_sz (dencB (pairT k))
 have hbl := namedB_len [114, 115, 97]
 have hpt : seqT [natT k.n, natT k.e] = pairT k := rfl
 refine st0 ?_
 refine rg ΦKe_ok [1, 2] szE ?_
 refine rd ΦKe_ok 13 [2, 3] (And.intro hns (And.intro hpt szE)) ?_
 refine rg ΦKe_ok [2] szE ?_
 exact fz szE)
end Go.Proofs.YtpajpkbipagjpaaGreatDoor.Oc
namespace Go.Proofs.YtpajpkbipagjpaaGreatDoor.Oc
open Go Go.RowKit Go.Proofs.YtpajpkbipagjpaaGreatDoor.Vm Go.Proofs.YtpajpkbipagjpaaGreatDoor.Tr Go.IntWalk
set_option maxRecDepth 100000
set_option maxHeartbeats 4000000
def extT (x : Ex) : T := seqT (primT 6 x.oid :: ((if x.crit = true then [primT 1 [255]] else []) ++ [primT 4 x.val]))
theorem ext_y {x : Ex} (h : x.crit = true) : extT x = seqT [primT 6 x.oid, primT 1 [255], primT 4 x.val] := by unfold extT; rw [if_pos h]; rfl
theorem ext_n {x : Ex} (h : x.crit = false) : extT x = seqT [primT 6 x.oid, primT 4 x.val] := by unfold extT; rw [if_neg (by rw [h]; decide)]; rfl
theorem b255 : ([[Vm.Data.int .u8 255]] : List (List Vm.Data)) = bytesD [255] ∧ ([255] : List UInt8).length = 1 := ⟨rfl, rfl⟩
def timesB (c : Ce) : Bool := decide (0 ≤ c.frm ∧ c.frm ≤ c.til ∧ c.til ≤ 253402300799999 ∧ c.frm % 1000 = 0 ∧ c.til % 1000 = 0)
theorem tmI : ∀ n : Int, 0 ≤ n → n.tmod 1000 = n % 1000 := fun n h => Int.tmod_eq_emod_of_nonneg h
noncomputable def ΦEx : Fns := tab [(62, cseqF), (61, cprimF)]
theorem ΦEx_ok : Sound E ΦEx := sound_cons (by kernel_rfl) cseq_ok (sound_cons (by kernel_rfl) cprim_ok (sound_nil))
@[go_sem] theorem ΦEx_r : ΦEx 62 = some cseqF ∧ ΦEx 61 = some cprimF := ⟨rfl, rfl⟩
@[go_sem] noncomputable def cextF : PFn := PF [SEx] (fun (x : Ex) => x.oid.length ≤ 1000000 ∧ x.val.length ≤ 1000000) (fun (x : Ex) => [nodeD (extT x)])
theorem cext_ok : Pure E 122 cextF := Pure.of_sig (rs := [.cell 2 25]) (n := 22) Tryz.func122 rfl rfl rfl (Nat.le_of_ble_eq_true rfl) (by
 intro (x : Ex) hds
 obtain ⟨h1, h2⟩ := hds
 refine st0 ?_
 refine rg ΦEx_ok [1, 2] szE ?_
 refine rg ΦEx_ok [1, 2, 3] szE ?_
 refine rg ΦEx_ok [1, 2, 3, 9] szE ?_
 refine cn ?_ ?_
 ·intro h; try exact na h
  all_goals
   refine rgL ΦEx_ok (And.intro b255 szE) ?_
   refine rg ΦEx_ok [2] szE ?_
   first
   | exact fz (And.intro (ext_y (by assumption)) szE)
   | exact fz (And.intro (ext_n (x := x) (by first | assumption | simpa using h)) szE)
 ·intro h; try exact na h
  all_goals
   refine rg ΦEx_ok [2] szE ?_
   first
   | exact fz (And.intro (ext_y (by assumption)) szE)
   | exact fz (And.intro (ext_n (x := x) (by first | assumption | simpa using h)) szE))
theorem times_y {c : Ce} (h : 0 ≤ c.frm ∧ c.frm ≤ c.til ∧ c.til ≤ 253402300799999 ∧ c.frm % 1000 = 0) : timesB c = decide (c.til % 1000 = 0) := by
 unfold timesB; congr 1; simp only [eq_iff_iff]; omega
theorem times_n {c : Ce} (h : ¬ (0 ≤ c.frm ∧ c.frm ≤ c.til ∧ c.til ≤ 253402300799999 ∧ c.frm % 1000 = 0)) : timesB c = false := decide_eq_false (by omega)
@[go_sem] noncomputable def ctimesF : PFn := PF [SCe] (fun (c : Ce) => True) (fun (c : Ce) => [.bool (timesB c)])
theorem ctimes_ok : Pure E 163 ctimesF := Pure.of_sig (rs := [.tmp 2]) (n := 30) Tryz.func163 rfl rfl rfl (Nat.le_of_ble_eq_true rfl) (by
 intro (c : Ce) hds
 refine st0 ?_
 refine rg sound_nil [1] trivial ?_
 refine rB sound_nil [2] trivial fun K' hK => ?_
 repeat' first | (refine lf hK trivial ?_; clear hK K') | with_reducible apply And.intro | refine sA trivial (fun _ => ?_) fun _ => ?_ | refine sAb trivial (fun _ => ?_) fun _ => ?_ | refine sAl trivial (fun g => ?_) fun g => ?_ | exact sd | exact sde trivial | exact sdp trivial | refine stk trivial ?_ | fail
 all_goals
  first
  | exact fz (times_n (c := c) (by omega))
  | (rw [tmI _ (by omega)] at *; exact fz (times_n (c := c) (by omega)))
  | (have h0 : c.frm % 1000 = 0 := by rw [← tmI _ (by omega)]; assumption
     exact fz (times_y (c := c) (by omega))))
def maxA : Nat → List UInt8 → Nat
 | a, [] => a
 | a, c :: r => maxA (if a < c.toNat then c.toNat else a) r
def maxB (s : List UInt8) : Nat := maxA (s.getD 0 0).toNat (s.drop 1)
theorem maxA_step {s : List UInt8} {i a : Nat} (h : i < s.length) : maxA a (s.drop i) = maxA (if a < (s.getD i 0).toNat then (s.getD i 0).toNat else a) (s.drop (i + 1)) := by
 rw [List.drop_eq_getElem_cons h, maxA, List.getD_eq_getElem?_getD, List.getElem?_eq_getElem h]; rfl
theorem mxI (a b : Nat) : (if (a : Int) < (b : Int) then (b : Int) else (a : Int)) = ((if a < b then b else a : Nat) : Int) := by
 by_cases h : a < b
 ·rw [if_pos h, if_pos (by omega)]
 ·rw [if_neg h, if_neg (by omega)]
theorem mxI2 (a b : Nat) : (if (b : Int) < (a : Int) then (a : Int) else (b : Int)) = ((if a < b then b else a : Nat) : Int) := by
 by_cases h : a < b
 ·rw [if_pos h, if_neg (by omega)]
 ·rw [if_neg h]; split <;> omega
theorem maxA_end {s : List UInt8} {i a : Nat} (h : s.length ≤ i) : maxA a (s.drop i) = a := by rw [List.drop_eq_nil_of_le h]; rfl
@[go_sem] noncomputable def bmaxF : PFn := PF [SY] (fun (s : List UInt8) => 0 < s.length ∧ s.length ≤ 1000000) (fun (s : List UInt8) => [.int .u8 (maxB s : Int)])
theorem bmax_ok : Pure E 162 bmaxF := Pure.of_sig (rs := [.tmp 2]) (n := 25) Tryz.func162 rfl rfl rfl (Nat.le_of_ble_eq_true rfl) (by
 intro (s : List UInt8) hds
 obtain ⟨hs1, hs2⟩ := hds
 refine st0 ?_
 refine rg sound_nil [0] trivial ?_
 refine rg sound_nil [0, 7] trivial ?_
 refine cn ?_ ?_
 ·intro h; try exact na h
  all_goals
   exfalso; omega
 ·intro h; try exact na h
  all_goals
   refine rg sound_nil [0, 3] trivial ?_
   refine rg sound_nil [0, 3, 4] trivial ?_
   refine nx ?_
   refine VC.loopP (ι := Nat × Nat) [0] (fun i => [(3, .dat (.int .u8 (i.2 : Int))), (4, .dat (.int .i64 (i.1 : Int)))]) (fun _ => []) (fun i => 1 ≤ i.1 ∧ i.1 ≤ s.length ∧ i.2 < 256 ∧ maxA i.2 (s.drop i.1) = maxB s) (fun i => s.length - i.1) (1, (s.getD 0 0).toNat) ⟨Nat.le_refl _, hs1, UInt8.toNat_lt _, rfl⟩ ?_ ?_
   ·refine Ent.to rfl rfl rfl ?_ ?_
    ·simp -implicitDefEqProofs only [go_sem]; (try simp only [D.dat.injEq, Vm.Data.int.injEq, true_and, and_true, and_self, eq_self]); (try omega); (try ((repeat' apply And.intro) <;> first | omega | rfl))
    ·simp -implicitDefEqProofs only [go_sem]
   rintro ⟨k, a⟩ ⟨h1, h2, h3, h4⟩; try dsimp only at h1 h2 h3 h4
   refine st0 ?_
   refine rg sound_nil [0, 3, 4, 15] trivial ?_
   refine cn ?_ ?_
   ·intro h; try exact na h
    all_goals
     have hb8 := (s.getD k 0).toNat_lt
     have hbd := bytesD_at (l := s) (k := k) (by omega)
     have hmx := mxI a (s.getD k 0).toNat
     have hmy := mxI2 a (s.getD k 0).toNat
     refine rgL sound_nil (And.intro hbd (And.intro hmx hmy)) ?_
     refine rgL sound_nil trivial ?_
     refine nx ?_
     refine ⟨(k + 1, if a < (s.getD k 0).toNat then (s.getD k 0).toNat else a), ⟨by omega, by dsimp only; omega, by dsimp only; split <;> omega, by dsimp only; rw [← maxA_step (by omega)]; exact h4⟩, Ent.to rfl rfl rfl ?_ ?_, by dsimp only; omega⟩
     ·simp -implicitDefEqProofs only [go_sem]; (try simp (disch := omega) only [i64_in, tmodn, tdivn]); (try simp only [D.dat.injEq, Vm.Data.int.injEq, true_and, and_true, and_self, eq_self]); (try omega); (try ((repeat' apply And.intro) <;> first | omega | rfl))
     ·simp -implicitDefEqProofs only [go_sem]
   ·intro h; try exact na h
    all_goals
     have hme : a = maxB s := (maxA_end (s := s) (i := k) (a := a) (by omega)).symm.trans h4
     refine rg sound_nil [2] trivial ?_
     first
     | exact fz hme)
end Go.Proofs.YtpajpkbipagjpaaGreatDoor.Oc
namespace Go.Proofs.YtpajpkbipagjpaaGreatDoor.Oc
open Go Go.RowKit Go.Proofs.YtpajpkbipagjpaaGreatDoor.Vm Go.Proofs.YtpajpkbipagjpaaGreatDoor.Tr Go.IntWalk
set_option maxRecDepth 100000
set_option maxHeartbeats 4000000
theorem fit_int {s : List UInt8} (h : fitT (primT 2 s) = true) : 0 < s.length := by
 have hb := fit_brk h (primT 2 s) (by rw [T.all_eq]; exact List.mem_cons_self)
 cases s with
 | cons x l => exact Nat.succ_pos _
 | nil => exact absurd hb (by decide)
def serB (s : List UInt8) : Bool := decide (s.length ≤ 20) && (fitT (primT 2 s) && (decide ((s.getD 0 0).toNat < 128) && decide (0 < maxB s)))
def fitE (t : T) : Int := if fitT t = true then 0 else 110
theorem fitE_eq (t : T) : (if fitT t = true then 0 else 110 : Int) = fitE t := rfl
theorem fitE_0 {t : T} (h : fitE t = 0) : fitT t = true := by
 unfold fitE at h
 by_cases ht : fitT t = true
 ·exact ht
 ·rw [if_neg ht] at h; exact absurd h (by decide)
theorem fitE_n {t : T} (h : ¬ fitE t = 0) : fitT t = false := by
 cases ht : fitT t with
 | false => rfl
 | true => unfold fitE at h; rw [if_pos ht] at h; exact absurd rfl h
theorem ser_n {s : List UInt8} (h : ¬ ((s.length : Int) ≤ 20 ∧ fitE (primT 2 s) = 0 ∧ ((s.getD 0 0).toNat : Int) < 128)) : serB s = false := by
 unfold serB
 by_cases h1 : s.length ≤ 20
 ·by_cases h2 : fitE (primT 2 s) = 0
  ·have h3 : ¬ (s.getD 0 0).toNat < 128 := fun h3 => h ⟨by omega, h2, by omega⟩
   rw [decide_eq_false h3, Bool.false_and, Bool.and_false, Bool.and_false]
  ·rw [fitE_n h2, Bool.false_and, Bool.and_false]
 ·rw [decide_eq_false h1, Bool.false_and]
theorem ser_y {s : List UInt8} (h1 : (s.length : Int) ≤ 20) (h2 : fitE (primT 2 s) = 0) (h3 : ((s.getD 0 0).toNat : Int) < 128) : serB s = decide (0 < (maxB s : Int)) := by
 unfold serB
 rw [decide_eq_true (show s.length ≤ 20 by omega), fitE_0 h2, decide_eq_true (show (s.getD 0 0).toNat < 128 by omega), Bool.true_and, Bool.true_and, Bool.true_and]
 congr 1; simp only [eq_iff_iff]; omega
def okX (l : List Ex) (i : Nat) : Prop := fitT (primT 6 (l.getD i Ex.zero).oid) = true ∧ ∀ j, j < i → ¬ (l.getD i Ex.zero).oid = (l.getD j Ex.zero).oid
open Classical in
noncomputable def extsB (l : List Ex) : Bool := decide (∀ i, i < l.length → okX l i)
open Classical in
theorem exts_y {l : List Ex} (h : ∀ i, i < l.length → okX l i) : extsB l = true := decide_eq_true h
open Classical in
theorem exts_n {l : List Ex} {i : Nat} (hi : i < l.length) (h : ¬ okX l i) : extsB l = false := decide_eq_false fun h2 => h (h2 i hi)
noncomputable def mayB (c : Ce) : Bool := serB c.ser && (timesB c && (wholeB c.key.n && (wholeB c.key.e && (decide (c.key.d.length = 0) && (decide (c.exts.length ≤ 20) && extsB c.exts)))))
theorem may_n {c : Ce} (h : serB c.ser = false ∨ timesB c = false ∨ wholeB c.key.n = false ∨ wholeB c.key.e = false ∨ 0 < (c.key.d.length : Int) ∨ 20 < (c.exts.length : Int) ∨ extsB c.exts = false) : mayB c = false := by
 unfold mayB
 rcases h with h | h | h | h | h | h | h
 ·rw [h, Bool.false_and]
 ·rw [h, Bool.false_and, Bool.and_false]
 ·rw [h, Bool.false_and, Bool.and_false, Bool.and_false]
 ·rw [h]; simp
 ·rw [decide_eq_false (show ¬ c.key.d.length = 0 by omega)]; simp
 ·rw [decide_eq_false (show ¬ c.exts.length ≤ 20 by omega)]; simp
 ·rw [h]; simp
theorem may_y {c : Ce} (h : serB c.ser = true ∧ timesB c = true ∧ wholeB c.key.n = true ∧ wholeB c.key.e = true ∧ ¬ 0 < (c.key.d.length : Int) ∧ ¬ 20 < (c.exts.length : Int)) : mayB c = extsB c.exts := by
 obtain ⟨h1, h2, h3, h4, h5, h6⟩ := h
 unfold mayB
 rw [h1, h2, h3, h4, decide_eq_true (show c.key.d.length = 0 by omega), decide_eq_true (show c.exts.length ≤ 20 by omega)]
 simp
theorem exT_at {l : List Ex} {i j : Nat} (hj : j < i) (hi : i ≤ l.length) : (exsD (l.take i)).getD j [] = [.lst (bytesD (l.getD j Ex.zero).oid), .bool (l.getD j Ex.zero).crit, .lst (bytesD (l.getD j Ex.zero).val)] := by
 have h := exsD_at (l := l.take i) (k := j) (by rw [List.length_take]; omega)
 rw [h]
 have : (l.take i).getD j Ex.zero = l.getD j Ex.zero := by
  rw [List.getD_eq_getElem?_getD, List.getD_eq_getElem?_getD, List.getElem?_take_of_lt hj]
 rw [this]
theorem exT_len {l : List Ex} {i : Nat} (hi : i ≤ l.length) : (l.take i).length = i := by rw [List.length_take]; omega
def ceB (c : Ce) : Prop := c.ser.length ≤ 100000 ∧ c.key.n.length ≤ 100000 ∧ c.key.e.length ≤ 100000 ∧ (∀ j, (c.exts.getD j Ex.zero).oid.length ≤ 100000 ∧ (c.exts.getD j Ex.zero).val.length ≤ 100000) ∧ nmB c.iss ∧ nmB c.sub ∧ c.sig.length ≤ 1000000
noncomputable def ΦMa : Fns := tab [(61, cprimF), (116, checknF), (162, bmaxF), (163, ctimesF), (164, cwholeF), (103, beqF)]
theorem ΦMa_ok : Sound E ΦMa := sound_cons (by kernel_rfl) cprim_ok (sound_cons (by kernel_rfl) checkn_ok (sound_cons (by kernel_rfl) bmax_ok (sound_cons (by kernel_rfl) ctimes_ok (sound_cons (by kernel_rfl) cwhole_ok (sound_cons (by kernel_rfl) beq_ok (sound_nil))))))
@[go_sem] theorem ΦMa_r : ΦMa 61 = some cprimF ∧ ΦMa 116 = some checknF ∧ ΦMa 162 = some bmaxF ∧ ΦMa 163 = some ctimesF ∧ ΦMa 164 = some cwholeF ∧ ΦMa 103 = some beqF ∧ ΦMa 166 = none ∧ ΦMa 145 = none ∧ ΦMa 165 = none := ⟨rfl, rfl, rfl, rfl, rfl, rfl, rfl, rfl, rfl⟩
@[go_sem] theorem ΦMa_c : callable Tryz.prog 166 = true ∧ callable Tryz.prog 145 = true ∧ callable Tryz.prog 165 = true := ⟨by kernel_rfl, by kernel_rfl, by kernel_rfl⟩
@[go_sem] noncomputable def cmayF : PFn := PF [SCe] (fun (c : Ce) => ceB c) (fun (c : Ce) => [.bool (mayB c)])
theorem cmay_ok : Pure E 119 cmayF := Pure.of_sig (rs := [.tmp 2]) (n := 88) Tryz.func119 rfl rfl rfl (Nat.le_of_ble_eq_true rfl) (by
 intro (c : Ce) hds
 obtain ⟨hb1, hb2, hb3, hxb, _, _, _⟩ := hds
 have hfi : fitE (primT 2 c.ser) = 0 → 0 < c.ser.length := fun h => fit_int (fitE_0 h)
 refine st0 ?_
 refine rg ΦMa_ok [1] szE ?_
 refine rB ΦMa_ok [1, 3] (And.intro (fitE_eq (primT 2 c.ser)) szE) fun K' hK => ?_
 repeat' first | (refine lf hK (And.intro (fitE_eq (primT 2 c.ser)) szE) ?_; clear hK K') | with_reducible apply And.intro | refine sA (And.intro (fitE_eq (primT 2 c.ser)) szE) (fun _ => ?_) fun _ => ?_ | refine sAb (And.intro (fitE_eq (primT 2 c.ser)) szE) (fun _ => ?_) fun _ => ?_ | refine sAl (And.intro (fitE_eq (primT 2 c.ser)) szE) (fun g => ?_) fun g => ?_ | exact sd | exact sde (And.intro (fitE_eq (primT 2 c.ser)) szE) | exact sdp (And.intro (fitE_eq (primT 2 c.ser)) szE) | refine stk (And.intro (fitE_eq (primT 2 c.ser)) szE) ?_ | fail
 all_goals
  first | have hS : serB c.ser = false := ser_n (by omega) | have hS := ser_y (s := c.ser) (by omega) (by omega) (by omega)
  refine rB ΦMa_ok [1, 64] szE fun K' hK => ?_
  repeat' first | (refine lf hK szE ?_; clear hK K') | with_reducible apply And.intro | refine sA szE (fun _ => ?_) fun _ => ?_ | refine sAb szE (fun _ => ?_) fun _ => ?_ | refine sAl szE (fun g => ?_) fun g => ?_ | exact sd | exact sde szE | exact sdp szE | refine stk szE ?_ | fail
  all_goals
   refine cn ?_ ?_
   ·intro h; try exact na h
    all_goals
     (try simp only [Bool.not_eq_eq_eq_not, Bool.not_true, Bool.not_false, decide_eq_false_iff_not, decide_eq_true_eq] at *)
     have hy := (may_n (c := c) (by first | exact Or.inl (by first | exact hS | (rw [hS]; exact decide_eq_false (by omega))) | exact Or.inr (Or.inl (by assumption)) | exact Or.inr (Or.inr (Or.inl (by assumption))) | exact Or.inr (Or.inr (Or.inr (Or.inl (by assumption)))) | exact Or.inr (Or.inr (Or.inr (Or.inr (Or.inl (by omega))))) | exact Or.inr (Or.inr (Or.inr (Or.inr (Or.inr (Or.inl (by omega)))))) | exact Or.inr (Or.inr (Or.inr (Or.inr (Or.inr (Or.inr (exts_n (by omega) hdup))))))))
     refine rg ΦMa_ok [2] szE ?_
     first
     | exact fz hy
   ·intro h; try exact na h
    all_goals
     (try simp only [Bool.not_eq_eq_eq_not, Bool.not_true, Bool.not_false, decide_eq_false_iff_not, decide_eq_true_eq] at *)
     refine rg ΦMa_ok [1, 66, 67, 68] szE ?_
     refine nx ?_
     refine VC.loopP (ι := Nat) [1, 66, 67] (fun i => [(68, .dat (.int .i64 (i : Int)))]) (fun _ => [(1, .cells [.dat (.lst (bytesD c.ser)), .dat (.int .i64 c.way), .dat (.int .i64 c.hash), .dat (.lst (rdsD c.iss)), .dat (.int .i64 c.frm), .dat (.int .i64 c.til), .dat (.lst (rdsD c.sub)), .dat (.lst (bytesD c.key.n)), .dat (.lst (bytesD c.key.e)), .dat (.lst (bytesD c.key.d)), .dat (.lst (exsD c.exts)), .dat (.lst (bytesD c.sig))] false)]) (fun i => i ≤ c.exts.length ∧ ∀ j, j < i → okX c.exts j) (fun i => c.exts.length - i) 0 ⟨Nat.zero_le _, fun j hj => absurd hj (Nat.not_lt_zero _)⟩ ?_ ?_
     ·refine Ent.to rfl rfl rfl ?_ ?_
      ·simp -implicitDefEqProofs only [go_sem]; (try simp only [D.dat.injEq, Vm.Data.int.injEq, true_and, and_true, and_self, eq_self]); (try omega); (try ((repeat' apply And.intro) <;> first | omega | rfl))
      ·(repeat' (first | exact all_nil | (refine all_cons ?_ ?_))) <;> (simp -implicitDefEqProofs only [go_sem]; (try rfl); skip)
     rintro i ⟨hi, hp⟩; (try dsimp only at hi hp)
     refine st0 ?_
     refine rg ΦMa_ok [1, 66, 67, 68, 69] szE ?_
     refine cn ?_ ?_
     ·intro h; try exact na h
      all_goals
       have hxe := exsD_at (l := c.exts) (k := i) (by omega)
       have hti := exT_len (l := c.exts) (i := i) (by omega)
       have hob := (hxb i).1
       refine rg ΦMa_ok [1, 4, 5, 66, 67, 68] hxe ?_
       refine rg ΦMa_ok [1, 4, 5, 6, 66, 67, 68] szE ?_
       rcases (show fitE (primT 6 (c.exts.getD i Ex.zero).oid) = 0 ∨ ¬ fitE (primT 6 (c.exts.getD i Ex.zero).oid) = 0 by omega) with hf0 | hf0
       ·have hft := fitE_0 hf0
        refine rB ΦMa_ok [1, 66, 67, 68, 86] (And.intro hf0 (And.intro (fitE_eq (primT 6 (c.exts.getD i Ex.zero).oid)) szE)) fun K' hK => ?_
        repeat' first | with_reducible apply And.intro | exact sd | exact sde (And.intro hf0 (And.intro (fitE_eq (primT 6 (c.exts.getD i Ex.zero).oid)) szE)) | exact sdp (And.intro hf0 (And.intro (fitE_eq (primT 6 (c.exts.getD i Ex.zero).oid)) szE)) | refine stk (And.intro hf0 (And.intro (fitE_eq (primT 6 (c.exts.getD i Ex.zero).oid)) szE)) ?_ | fail
        refine ec (rs := [.tmp 4]) (n := 9) Tryz.func166 rfl rfl rfl ?_
        refine rg ΦMa_ok [0, 1] hti ?_
        refine rB ΦMa_ok [4] hti fun K' hK => ?_
        repeat' first | with_reducible apply And.intro | exact sd | exact sde hti | exact sdp hti | refine stk hti ?_ | fail
        refine ec (rs := [.tmp 4]) (n := 19) Tryz.func145 rfl rfl rfl ?_
        refine rg ΦMa_ok [0, 1] hti ?_
        refine rg ΦMa_ok [0, 1, 7, 8] hti ?_
        refine nx ?_
        refine VC.loopS (ι := Nat) [0, 1, 7] (fun j => [(8, .dat (.int .i64 (j : Int)))]) (fun j => []) (fun j => j ≤ i ∧ ∀ k, k < j → ¬ (c.exts.getD i Ex.zero).oid = (c.exts.getD k Ex.zero).oid) (fun j => i - j) 0 ⟨Nat.zero_le _, fun j hj => absurd hj (Nat.not_lt_zero _)⟩ ?_ ?_
        ·refine Ent.to rfl rfl rfl ?_ ?_
         ·simp -implicitDefEqProofs only [go_sem]; (try simp only [D.dat.injEq, Vm.Data.int.injEq, true_and, and_true, and_self, eq_self]); (try omega); (try ((repeat' apply And.intro) <;> first | omega | rfl))
         ·(repeat' (first | exact all_nil | (refine all_cons ?_ ?_))) <;> (simp -implicitDefEqProofs only [go_sem]; (try rfl); skip)
        rintro j ⟨hj, hq⟩; (try dsimp only at hj hq)
        refine st0 ?_
        refine rg ΦMa_ok [0, 1, 7, 8, 9] hti ?_
        refine cn ?_ ?_
        ·intro h; try exact na h
         all_goals
          refine rg ΦMa_ok [0, 1, 5, 7, 8] hti ?_
          have hji : j < i := by omega
          have hxa := exT_at (l := c.exts) (i := i) (j := j) hji (by omega)
          have hob := (hxb j).1
          refine rB ΦMa_ok [0, 1, 5, 7, 8, 16] hxa fun K' hK => ?_
          repeat' first | with_reducible apply And.intro | exact sd | exact sde hxa | exact sdp hxa | refine stk hxa ?_ | fail
          refine ec (rs := [.tmp 3]) (n := 9) Tryz.func165 rfl rfl rfl ?_
          refine rg ΦMa_ok [1, 2] trivial ?_
          refine rg ΦMa_ok [3] trivial ?_
          refine nx ?_
          refine rt hti ?_
          repeat' first | (refine lf hK hxa ?_; clear hK K') | with_reducible apply And.intro | exact sd | exact sde hxa | exact sdp hxa | refine stk hxa ?_ | fail
          all_goals
           refine cn ?_ ?_
           ·intro h; try exact na h
            all_goals
             have hdup : ¬ okX c.exts i := fun h9 => h9.2 j hji (by assumption)
             refine rg ΦMa_ok [4] hti ?_
             refine nx ?_
             refine rt hti ?_
             repeat' first | (refine lf hK hti ?_; clear hK K') | with_reducible apply And.intro | exact sd | exact sde hti | exact sdp hti | refine stk hti ?_ | fail
             all_goals
              refine nx ?_
              refine rt szE ?_
              repeat' first | (refine lf hK (And.intro hf0 (And.intro (fitE_eq (primT 6 (c.exts.getD i Ex.zero).oid)) szE)) ?_; clear hK K') | with_reducible apply And.intro | exact sd | exact sde (And.intro hf0 (And.intro (fitE_eq (primT 6 (c.exts.getD i Ex.zero).oid)) szE)) | exact sdp (And.intro hf0 (And.intro (fitE_eq (primT 6 (c.exts.getD i Ex.zero).oid)) szE)) | refine stk (And.intro hf0 (And.intro (fitE_eq (primT 6 (c.exts.getD i Ex.zero).oid)) szE)) ?_ | fail
              all_goals
               refine cn ?_ ?_
               ·intro h; try exact na h
                all_goals
                 have hy := (may_n (c := c) (by first | exact Or.inl (by first | exact hS | (rw [hS]; exact decide_eq_false (by omega))) | exact Or.inr (Or.inl (by assumption)) | exact Or.inr (Or.inr (Or.inl (by assumption))) | exact Or.inr (Or.inr (Or.inr (Or.inl (by assumption)))) | exact Or.inr (Or.inr (Or.inr (Or.inr (Or.inl (by omega))))) | exact Or.inr (Or.inr (Or.inr (Or.inr (Or.inr (Or.inl (by omega)))))) | exact Or.inr (Or.inr (Or.inr (Or.inr (Or.inr (Or.inr (exts_n (by omega) hdup))))))))
                 refine rg ΦMa_ok [2] szE ?_
                 first
                 | exact fz hy
               ·intro h; try exact na h
                all_goals
                 refine rgL ΦMa_ok szE ?_
                 refine nx ?_
                 refine ⟨i + 1, ⟨by omega, fun j hj => by
                  rcases Nat.lt_succ_iff_lt_or_eq.1 hj with hj | rfl
                  ·exact hp j hj
                  ·exact hokx⟩, Ent.to rfl rfl rfl ?_ ?_, by omega⟩
                 ·simp -implicitDefEqProofs only [go_sem]; (try simp (disch := omega) only [i64_in, tmodn, tdivn]); (try simp only [D.dat.injEq, Vm.Data.int.injEq, true_and, and_true, and_self, eq_self]); (try omega); (try ((repeat' apply And.intro) <;> first | omega | rfl))
                 ·(repeat' (first | exact all_nil | (refine all_cons ?_ ?_))) <;> (simp -implicitDefEqProofs only [go_sem]; (try rfl); skip)
           ·intro h; try exact na h
            all_goals
             refine rgL ΦMa_ok hti ?_
             refine nx ?_
             refine ⟨j + 1, ⟨by omega, fun k hk => by
              rcases Nat.lt_succ_iff_lt_or_eq.1 hk with hk | rfl
              ·exact hq k hk
              ·assumption⟩, Ent.to rfl rfl rfl ?_ ?_, by omega⟩
             ·simp -implicitDefEqProofs only [go_sem]; (try simp (disch := omega) only [i64_in, tmodn, tdivn]); (try simp only [D.dat.injEq, Vm.Data.int.injEq, true_and, and_true, and_self, eq_self]); (try omega); (try ((repeat' apply And.intro) <;> first | omega | rfl))
             ·(repeat' (first | exact all_nil | (refine all_cons ?_ ?_))) <;> (simp -implicitDefEqProofs only [go_sem]; (try rfl); skip)
        ·intro h; try exact na h
         all_goals
          have hokx : okX c.exts i := ⟨hft, fun k hk => hq k (by omega)⟩
          refine rg ΦMa_ok [4] hti ?_
          refine nx ?_
          refine rt hti ?_
          repeat' first | (refine lf hK hti ?_; clear hK K') | with_reducible apply And.intro | exact sd | exact sde hti | exact sdp hti | refine stk hti ?_ | fail
          all_goals
           refine nx ?_
           refine rt szE ?_
           repeat' first | (refine lf hK (And.intro hf0 (And.intro (fitE_eq (primT 6 (c.exts.getD i Ex.zero).oid)) szE)) ?_; clear hK K') | with_reducible apply And.intro | exact sd | exact sde (And.intro hf0 (And.intro (fitE_eq (primT 6 (c.exts.getD i Ex.zero).oid)) szE)) | exact sdp (And.intro hf0 (And.intro (fitE_eq (primT 6 (c.exts.getD i Ex.zero).oid)) szE)) | refine stk (And.intro hf0 (And.intro (fitE_eq (primT 6 (c.exts.getD i Ex.zero).oid)) szE)) ?_ | fail
           all_goals
            refine cn ?_ ?_
            ·intro h; try exact na h
             all_goals
              have hy := (may_n (c := c) (by first | exact Or.inl (by first | exact hS | (rw [hS]; exact decide_eq_false (by omega))) | exact Or.inr (Or.inl (by assumption)) | exact Or.inr (Or.inr (Or.inl (by assumption))) | exact Or.inr (Or.inr (Or.inr (Or.inl (by assumption)))) | exact Or.inr (Or.inr (Or.inr (Or.inr (Or.inl (by omega))))) | exact Or.inr (Or.inr (Or.inr (Or.inr (Or.inr (Or.inl (by omega)))))) | exact Or.inr (Or.inr (Or.inr (Or.inr (Or.inr (Or.inr (exts_n (by omega) hdup))))))))
              refine rg ΦMa_ok [2] szE ?_
              first
              | exact fz hy
            ·intro h; try exact na h
             all_goals
              refine rgL ΦMa_ok szE ?_
              refine nx ?_
              refine ⟨i + 1, ⟨by omega, fun j hj => by
               rcases Nat.lt_succ_iff_lt_or_eq.1 hj with hj | rfl
               ·exact hp j hj
               ·exact hokx⟩, Ent.to rfl rfl rfl ?_ ?_, by omega⟩
              ·simp -implicitDefEqProofs only [go_sem]; (try simp (disch := omega) only [i64_in, tmodn, tdivn]); (try simp only [D.dat.injEq, Vm.Data.int.injEq, true_and, and_true, and_self, eq_self]); (try omega); (try ((repeat' apply And.intro) <;> first | omega | rfl))
              ·(repeat' (first | exact all_nil | (refine all_cons ?_ ?_))) <;> (simp -implicitDefEqProofs only [go_sem]; (try rfl); skip)
       ·have hdup : ¬ okX c.exts i := fun h9 => by have := fitE_n hf0; rw [h9.1] at this; cases this
        refine rB ΦMa_ok [1, 66, 67, 68, 86] (And.intro hf0 (And.intro (fitE_eq (primT 6 (c.exts.getD i Ex.zero).oid)) szE)) fun K' hK => ?_
        repeat' first | (refine lf hK (And.intro hf0 (And.intro (fitE_eq (primT 6 (c.exts.getD i Ex.zero).oid)) szE)) ?_; clear hK K') | with_reducible apply And.intro | refine sA (And.intro hf0 (And.intro (fitE_eq (primT 6 (c.exts.getD i Ex.zero).oid)) szE)) (fun _ => ?_) fun _ => ?_ | refine sAb (And.intro hf0 (And.intro (fitE_eq (primT 6 (c.exts.getD i Ex.zero).oid)) szE)) (fun _ => ?_) fun _ => ?_ | refine sAl (And.intro hf0 (And.intro (fitE_eq (primT 6 (c.exts.getD i Ex.zero).oid)) szE)) (fun g => ?_) fun g => ?_ | exact sd | exact sde (And.intro hf0 (And.intro (fitE_eq (primT 6 (c.exts.getD i Ex.zero).oid)) szE)) | exact sdp (And.intro hf0 (And.intro (fitE_eq (primT 6 (c.exts.getD i Ex.zero).oid)) szE)) | refine stk (And.intro hf0 (And.intro (fitE_eq (primT 6 (c.exts.getD i Ex.zero).oid)) szE)) ?_ | fail
        all_goals
         refine cn ?_ ?_
         ·intro h; try exact na h
          all_goals
           have hy := (may_n (c := c) (by first | exact Or.inl (by first | exact hS | (rw [hS]; exact decide_eq_false (by omega))) | exact Or.inr (Or.inl (by assumption)) | exact Or.inr (Or.inr (Or.inl (by assumption))) | exact Or.inr (Or.inr (Or.inr (Or.inl (by assumption)))) | exact Or.inr (Or.inr (Or.inr (Or.inr (Or.inl (by omega))))) | exact Or.inr (Or.inr (Or.inr (Or.inr (Or.inr (Or.inl (by omega)))))) | exact Or.inr (Or.inr (Or.inr (Or.inr (Or.inr (Or.inr (exts_n (by omega) hdup))))))))
           refine rg ΦMa_ok [2] szE ?_
           first
           | exact fz hy
         ·intro h; try exact na h
          all_goals
           refine rgL ΦMa_ok szE ?_
           refine nx ?_
           refine ⟨i + 1, ⟨by omega, fun j hj => by
            rcases Nat.lt_succ_iff_lt_or_eq.1 hj with hj | rfl
            ·exact hp j hj
            ·exact hokx⟩, Ent.to rfl rfl rfl ?_ ?_, by omega⟩
           ·simp -implicitDefEqProofs only [go_sem]; (try simp (disch := omega) only [i64_in, tmodn, tdivn]); (try simp only [D.dat.injEq, Vm.Data.int.injEq, true_and, and_true, and_self, eq_self]); (try omega); (try ((repeat' apply And.intro) <;> first | omega | rfl))
           ·(repeat' (first | exact all_nil | (refine all_cons ?_ ?_))) <;> (simp -implicitDefEqProofs only [go_sem]; (try rfl); skip)
     ·intro h; try exact na h
      all_goals
       have hy : mayB c = true := (may_y ⟨by rw [hS]; exact decide_eq_true (by omega), by assumption, by assumption, by assumption, by omega, by omega⟩).trans (exts_y fun j hj => hp j (by omega))
       refine rg ΦMa_ok [2] szE ?_
       first
       | exact fz hy)
end Go.Proofs.YtpajpkbipagjpaaGreatDoor.Oc
namespace Go.Proofs.YtpajpkbipagjpaaGreatDoor.Oc
open Go Go.RowKit Go.Proofs.YtpajpkbipagjpaaGreatDoor.Vm Go.Proofs.YtpajpkbipagjpaaGreatDoor.Tr Go.IntWalk
set_option maxRecDepth 100000
set_option maxHeartbeats 4000000
theorem beB_inj : ∀ (k : Nat) {n m : Nat}, n < 256 ^ k → m < 256 ^ k → beB k n = beB k m → n = m
 | 0, n, m, hn, hm, _ => by simp at hn hm; omega
 | k + 1, n, m, hn, hm, h => by
   rw [beB, beB] at h
   obtain ⟨h1, h2⟩ := List.append_inj h (by rw [beB_len, beB_len])
   rw [Nat.pow_succ] at hn hm
   have e1 := beB_inj k (Nat.div_lt_of_lt_mul (by omega)) (Nat.div_lt_of_lt_mul (by omega)) h1
   simp only [List.cons.injEq, and_true] at h2
   have e2 := ofNat_inj (by omega) (by omega) h2
   omega
theorem tri_split : ∀ (l : List UInt8), l = List.replicate (l.length - (triB l).length) 0 ++ triB l
 | [] => rfl
 | x :: l => by
   by_cases h : x = 0
   ·subst h
    have e : triB (0 :: l) = triB l := rfl
    have ih := tri_split l
    have hl := tri_len l
    rw [e, List.length_cons, show l.length + 1 - (triB l).length = (l.length - (triB l).length) + 1 by omega, List.replicate_succ, List.cons_append, ← ih]
   ·have e : triB (x :: l) = x :: l := by
     unfold triB; rw [List.dropWhile_cons, if_neg (by simpa using h)]
    rw [e, Nat.sub_self]; rfl
theorem tri_inj {l m : List UInt8} (hl : l.length = m.length) (h : triB l = triB m) : l = m := by
 rw [tri_split l, tri_split m, h, hl]
theorem lenB_pre {n m : Nat} {x y : List UInt8} (hn : n < 256 ^ 8) (hm : m < 256 ^ 8) (h : lenB n ++ x = lenB m ++ y) : n = m ∧ x = y := by
 have tn := tri_beB n
 have tm := tri_beB m
 by_cases h1 : n < 128
 ·by_cases h2 : m < 128
  ·rw [lenB_small h1, lenB_small h2] at h
   simp only [List.cons_append, List.nil_append, List.cons.injEq] at h
   exact ⟨ofNat_inj (by omega) (by omega) h.1, h.2⟩
  ·rw [lenB_small h1, lenB_big (by omega)] at h
   simp only [List.cons_append, List.nil_append, List.cons.injEq] at h
   have := ofNat_inj (by omega) (by omega) h.1
   omega
 ·by_cases h2 : m < 128
  ·rw [lenB_small h2, lenB_big (by omega)] at h
   simp only [List.cons_append, List.nil_append, List.cons.injEq] at h
   have := ofNat_inj (by omega) (by omega) h.1
   omega
  ·rw [lenB_big (by omega), lenB_big (by omega)] at h
   simp only [List.cons_append, List.cons.injEq] at h
   have e := ofNat_inj (by omega) (by omega) h.1
   obtain ⟨e1, e2⟩ := List.append_inj h.2 (by omega)
   exact ⟨beB_inj 8 hn hm (tri_inj (by rw [beB_len, beB_len]) e1), e2⟩
theorem encP_pre {g : Int} {a b x y : List UInt8} (ha : a.length < 256 ^ 8) (hb : b.length < 256 ^ 8) (h : encT (primT g a) ++ x = encT (primT g b) ++ y) : a = b ∧ x = y := by
 rw [encT_eq, encT_eq, List.cons_append, List.cons_append] at h
 injection h with _ h
 have ca : conN (primT g a) = a.length := by unfold conN; rw [show (primT g a).kids = [] from rfl, encsT_nil]; rfl
 have cb : conN (primT g b) = b.length := by unfold conN; rw [show (primT g b).kids = [] from rfl, encsT_nil]; rfl
 rw [ca, cb] at h
 simp only [List.append_assoc] at h
 obtain ⟨h1, h2⟩ := lenB_pre ha hb h
 rw [show (primT g a).kids = [] from rfl, show (primT g b).kids = [] from rfl, encsT_nil, List.nil_append, List.nil_append] at h2
 exact List.append_inj h2 h1
theorem whole_pos {b : List UInt8} (h : wholeB b = true) : 0 < b.length ∧ b.length ≤ 512 ∧ 0 < (b.getD 0 0).toNat := of_decide_eq_true h
theorem numB_inj {a b : List UInt8} (ha : wholeB a = true) (hb : wholeB b = true) (h : numB a = numB b) : a = b := by
 have pa := whole_pos ha
 have pb := whole_pos hb
 unfold numB at h
 split at h <;> split at h
 ·injection h
 ·exfalso; rw [← h] at pb; exact absurd pb.2.2 (Nat.lt_irrefl 0)
 ·exfalso; rw [h] at pa; exact absurd pa.2.2 (Nat.lt_irrefl 0)
 ·exact h
theorem nat_short {b : List UInt8} (h : wholeB b = true) : shortB (numB b) = true := by
 obtain ⟨h1, h2, h3⟩ := whole_pos h
 unfold numB
 by_cases hc : 0 < b.length ∧ 128 ≤ (b.getD 0 0).toNat
 ·rw [if_pos hc]
  cases b with
  | nil => exact absurd h1 (by decide)
  | cons x l =>
    have hx := x.toNat_lt
    have hx2 : 128 ≤ x.toNat := hc.2
    unfold shortB
    rw [if_neg (by simp only [List.length_cons]; omega)]
    have : decide (¬ ((0 :: x :: l : List UInt8).getD 0 0).toNat / 128 = ((0 :: x :: l : List UInt8).getD 1 0).toNat / 128) = true := decide_eq_true (by show ¬ (0 : Nat) / 128 = x.toNat / 128; omega)
    rw [this, Bool.or_true]
 ·rw [if_neg hc]
  unfold shortB
  split
  ·exact decide_eq_true (by omega)
  ·have e1 : decide (¬ (b.getD 0 0).toNat = 0) = true := decide_eq_true (by omega)
   have e2 : decide (¬ (b.getD 0 0).toNat = 255) = true := decide_eq_true (by omega)
   rw [e1, e2]; rfl
theorem brk_nat {b : List UInt8} (h : wholeB b = true) : brkN (natT b) = 0 := by
 have e : contOk (natT b).tag (natT b).bytes = true := nat_short h
 rw [brk_p (t := natT b) (by show ¬ ((0 : Int) < 0 ∨ 3 < (0 : Int) ∨ (2 : Int) < 0 ∨ 30 < (2 : Int)); omega) (by rintro (⟨h, _⟩ | ⟨_, h⟩); exact absurd h (by show ¬ (false = true); decide); exact absurd h (by show ¬ (0 < ((0 : Nat) : Int)); omega)) rfl (by show ¬ ((2 : Int) = 16 ∨ (2 : Int) = 17); omega), if_neg (by rintro (h | h); exact absurd h (by show ¬ (false = true); decide); exact absurd h (by show ¬ (hasFit 2 = false); decide)), if_pos e]
theorem brk_seq (l : List T) : brkN (seqT l) = 0 := by
 rw [brk_l (t := seqT l) (by show ¬ ((0 : Int) < 0 ∨ 3 < (0 : Int) ∨ (16 : Int) < 0 ∨ 30 < (16 : Int)); omega) (by rintro (⟨_, h⟩ | ⟨h, _⟩); exact absurd h (by show ¬ (0 < ((0 : Nat) : Int)); omega); exact absurd h (by show ¬ (true = false); decide)) rfl (by show ((16 : Int) = 16 ∨ (16 : Int) = 17); omega)]
 rfl
end Go.Proofs.YtpajpkbipagjpaaGreatDoor.Oc
namespace Go.Proofs.YtpajpkbipagjpaaGreatDoor.Oc
open Go Go.RowKit Go.Proofs.YtpajpkbipagjpaaGreatDoor.Vm Go.Proofs.YtpajpkbipagjpaaGreatDoor.Tr Go.IntWalk
set_option maxRecDepth 100000
set_option maxHeartbeats 4000000
def partL (c : Ce) : List T := [inT 0 [primT 2 (intB 2)], primT 2 c.ser, signT c.way c.hash, nameT c.iss, seqT [whenT c.frm, whenT c.til], nameT c.sub, keyT c.key]
def partT (c : Ce) : T := seqT (partL c ++ if 0 < c.exts.length then [inT 3 [seqT (c.exts.map extT)]] else [])
def allT (c : Ce) : T := seqT [partT c, signT c.way c.hash, bitT c.sig]
def madeOk (c : Ce) : Prop := signE c.way c.hash = 0 ∧ nameE c.iss = 0 ∧ nameE c.sub = 0 ∧ mayB c = true
open Classical in
noncomputable def madeE (c : Ce) : Int := if madeOk c then dszE (allT c) else 200
noncomputable def partR (c : Ce) : T := if madeE c = 0 then partT c else T.zero
noncomputable def allR (c : Ce) : T := if madeE c = 0 then allT c else T.zero
theorem made_n {c : Ce} (h : ¬ madeOk c) : madeE c = 200 ∧ partR c = T.zero ∧ allR c = T.zero := by
 have e : madeE c = 200 := if_neg h
 exact ⟨e, if_neg (by rw [e]; decide), if_neg (by rw [e]; decide)⟩
theorem made_l {c : Ce} (h : madeOk c) (h2 : ¬ dszE (allT c) = 0) : madeE c = dszE (allT c) ∧ partR c = T.zero ∧ allR c = T.zero := by
 have e : madeE c = dszE (allT c) := if_pos h
 exact ⟨e, if_neg (by rw [e]; exact h2), if_neg (by rw [e]; exact h2)⟩
theorem made_y {c : Ce} (h : madeOk c) (h2 : dszE (allT c) = 0) : madeE c = 0 ∧ partR c = partT c ∧ allR c = allT c ∧ dszE (allT c) = 0 := by
 have e : madeE c = 0 := (if_pos h).trans h2
 exact ⟨e, if_pos e, if_pos e, h2⟩
theorem may_times {c : Ce} (h : mayB c = true) : wholeT c.frm ∧ wholeT c.til ∧ c.exts.length ≤ 20 := by
 unfold mayB at h
 simp only [Bool.and_eq_true, decide_eq_true_eq] at h
 obtain ⟨_, h1, _, _, _, h2, _⟩ := h
 have h3 : 0 ≤ c.frm ∧ c.frm ≤ c.til ∧ c.til ≤ 253402300799999 ∧ c.frm % 1000 = 0 ∧ c.til % 1000 = 0 := of_decide_eq_true h1
 exact ⟨⟨by omega, by omega, by omega⟩, ⟨by omega, by omega, by omega⟩, h2⟩
theorem when_sz (t : Int) : (whenT t).sz ≤ 40 := by
 have := genT_len t
 unfold whenT
 split
 ·rw [sz_prim]; omega
 ·rw [sz_prim, List.length_drop]; omega
theorem key_sz (k : Ky) : (keyT k).sz ≤ 66000 := by
 have h1 := namedB_len [114, 115, 97]
 have h2 := denc_len (pairT k)
 have h3 := bit_sz (dencB (pairT k))
 unfold keyT
 simp only [sz_seq, T.szs_cons, T.szs_nil, sz_prim, List.length_nil, h3]
 omega
theorem ext_sz {x : Ex} (h : x.oid.length ≤ 100000 ∧ x.val.length ≤ 100000) : (extT x).sz ≤ 200030 := by
 unfold extT
 split <;> (simp only [sz_seq, T.szs_cons, T.szs_nil, sz_prim, List.cons_append, List.nil_append, List.length_cons, List.length_nil]; omega)
theorem exts_take {l : List Ex} {i : Nat} (h : i < l.length) : (l.take (i + 1)).map extT = (l.take i).map extT ++ [extT (l.getD i Ex.zero)] := by
 rw [List.take_add_one, List.getElem?_eq_getElem h, List.map_append, List.getD_eq_getElem?_getD, List.getElem?_eq_getElem h]; rfl
theorem exts_sz {l : List Ex} (h : ∀ j, (l.getD j Ex.zero).oid.length ≤ 100000 ∧ (l.getD j Ex.zero).val.length ≤ 100000) : ∀ i, i ≤ l.length → T.szs ((l.take i).map extT) ≤ 200030 * i
 | 0, _ => by rw [List.take_zero, List.map_nil, T.szs_nil]; omega
 | i + 1, hi => by
   have ih := exts_sz h i (by omega)
   have hx := ext_sz (h i)
   rw [exts_take (by omega), T.szs_append, T.szs_cons, T.szs_nil]
   omega
theorem node_row (l : List T) (t : T) : nodesD l ++ [[.int .i64 t.cls, .int .i64 t.tag, .bool t.cons, .lst (bytesD t.bytes), .lst (nodesD t.kids)]] = nodesD (l ++ [t]) := by
 rw [← nodesD_append, show nodesD [t] = [nodeC t] by rw [nodesD_cons, nodesD_nil], nodeC_eq]
theorem take7 (c : Ce) : (partL c).length = 7 ∧ List.take 7 (partL c) = partL c := ⟨rfl, rfl⟩
theorem take8 (c : Ce) (t : T) : (partL c ++ [t]).length = 8 ∧ List.take 8 (partL c ++ [t]) = partL c ++ [t] := ⟨rfl, rfl⟩
theorem part_y {c : Ce} {l : List T} (h : 0 < (c.exts.length : Int)) (hl : l = c.exts.map extT) : seqT (partL c ++ [inT 3 [seqT l]]) = partT c := by unfold partT; rw [if_pos (by omega), hl]
theorem part_n {c : Ce} (h : ¬ 0 < (c.exts.length : Int)) : seqT (partL c) = partT c := by unfold partT; rw [if_neg (by omega), List.append_nil]
theorem partL_sz {c : Ce} (h : ceB c) : T.szs (partL c) ≤ 200000 := by
 have hs1 := signT_sz c.way c.hash
 have hs2 := nameT_sz c.iss
 have hs3 := nameT_sz c.sub
 have hs4 := when_sz c.frm
 have hs5 := when_sz c.til
 have hs6 := key_sz c.key
 have hi2 := intB_len 2
 have := h.1
 unfold partL
 simp only [sz_seq, T.szs_cons, T.szs_nil, sz_prim, sz_in]
 omega
theorem part_sz {c : Ce} (h : ceB c) (hx : c.exts.length ≤ 20) : (partT c).sz ≤ 5000000 := by
 have h1 := partL_sz h
 have h2 := exts_sz h.2.2.2.1 c.exts.length (Nat.le_refl _)
 rw [List.take_length] at h2
 unfold partT
 split <;> (simp only [sz_seq, T.szs_append, T.szs_cons, T.szs_nil, sz_in]; omega)
theorem allc_sz {c : Ce} (h : ceB c) (hx : c.exts.length ≤ 20) : (allT c).sz ≤ 7000000 := by
 have h1 := part_sz h hx
 have h2 := signT_sz c.way c.hash
 have h3 := bit_sz c.sig
 have h4 := h.2.2.2.2.2.2
 unfold allT
 simp only [sz_seq, T.szs_cons, T.szs_nil]
 omega
theorem ext_row {l : List T} {x : Ex} : nodesD l ++ [[.int .i64 (extT x).cls, .int .i64 (extT x).tag, .bool (extT x).cons, .lst (bytesD (extT x).bytes), .lst (nodesD (extT x).kids)]] = nodesD (l ++ [extT x]) := by
 rw [← nodesD_append, show nodesD [extT x] = [nodeC (extT x)] by rw [nodesD_cons, nodesD_nil], nodeC_eq]
noncomputable def ΦMd : Fns := tab [(13, salgF), (21, bname_1F), (119, cmayF), (67, tintF), (68, cinF), (61, cprimF), (120, cwhenF), (62, cseqF), (121, ckeyF), (122, cextF), (123, cbitsF), (97, gsizeF)]
theorem ΦMd_ok : Sound E1 ΦMd := sound_cons (by kernel_rfl) (lift1 salg_ok) (sound_cons (by kernel_rfl) bname_1_ok (sound_cons (by kernel_rfl) (lift1 cmay_ok) (sound_cons (by kernel_rfl) (lift1 tint_ok) (sound_cons (by kernel_rfl) (lift1 cin_ok) (sound_cons (by kernel_rfl) (lift1 cprim_ok) (sound_cons (by kernel_rfl) (lift1 cwhen_ok) (sound_cons (by kernel_rfl) (lift1 cseq_ok) (sound_cons (by kernel_rfl) (lift1 ckey_ok) (sound_cons (by kernel_rfl) (lift1 cext_ok) (sound_cons (by kernel_rfl) (lift1 cbits_ok) (sound_cons (by kernel_rfl) (lift1 gsize_ok) (sound_nil))))))))))))
@[go_sem] theorem ΦMd_r : ΦMd 13 = some salgF ∧ ΦMd 21 = some bname_1F ∧ ΦMd 119 = some cmayF ∧ ΦMd 67 = some tintF ∧ ΦMd 68 = some cinF ∧ ΦMd 61 = some cprimF ∧ ΦMd 120 = some cwhenF ∧ ΦMd 62 = some cseqF ∧ ΦMd 121 = some ckeyF ∧ ΦMd 122 = some cextF ∧ ΦMd 123 = some cbitsF ∧ ΦMd 97 = some gsizeF := ⟨rfl, rfl, rfl, rfl, rfl, rfl, rfl, rfl, rfl, rfl, rfl, rfl⟩
@[go_sem] noncomputable def cmade_1F : PFn := PF [SCe] (fun (c : Ce) => ceB c) (fun (c : Ce) => [nodeD (partR c), nodeD (allR c), .int .i64 (madeE c)])
theorem cmade_1_ok : Pure E1 89 cmade_1F := Pure.of_sig (rs := [.cell 2 25, .cell 3 25, .tmp 4]) (n := 122) Tryz.func89 rfl rfl rfl (Nat.le_of_ble_eq_true rfl) (by
 intro (c : Ce) hds
 have hc := hds
 obtain ⟨hb1, hb2, hb3, hxb, hn1, hn2, hb4⟩ := hds
 have hs1 := signT_sz c.way c.hash
 have hs2 := nameT_sz c.iss
 have hs3 := nameT_sz c.sub
 have hs4 := when_sz c.frm
 have hs5 := when_sz c.til
 have hs6 := key_sz c.key
 have hi2 := intB_len 2
 have hbs := bit_sz c.sig
 refine st0 ?_
 refine rg ΦMd_ok [1, 2, 3] szE ?_
 refine rg ΦMd_ok [1, 2, 3, 5, 6] szE ?_
 refine rg ΦMd_ok [1, 2, 3, 5, 6, 7, 8] (And.intro hn1 szE) ?_
 refine rg ΦMd_ok [1, 2, 3, 5, 6, 7, 8, 9, 10] (And.intro hn2 szE) ?_
 refine rB ΦMd_ok [1, 2, 3, 5, 7, 9, 53] (And.intro hc szE) fun K' hK => ?_
 repeat' first | (refine lf hK (And.intro hc szE) ?_; clear hK K') | with_reducible apply And.intro | refine sA (And.intro hc szE) (fun _ => ?_) fun _ => ?_ | refine sAb (And.intro hc szE) (fun _ => ?_) fun _ => ?_ | refine sAl (And.intro hc szE) (fun g => ?_) fun g => ?_ | exact sd | exact sde (And.intro hc szE) | exact sdp (And.intro hc szE) | refine stk (And.intro hc szE) ?_ | fail
 all_goals
  refine cn ?_ ?_
  ·intro h; try exact na h
   all_goals
    (try simp only [Bool.not_eq_eq_eq_not, Bool.not_true, Bool.not_false, decide_eq_false_iff_not, decide_eq_true_eq] at *)
    have hy := And.intro (made_n (c := c) (by rintro ⟨a1, a2, a3, a4⟩; first | omega | exact absurd a4 (by rw [(by assumption : mayB c = false)]; decide))) zeroE
    refine rg ΦMd_ok [2, 3, 4] szE ?_
    first
    | exact fz hy
  ·intro h; try exact na h
   all_goals
    (try simp only [Bool.not_eq_eq_eq_not, Bool.not_true, Bool.not_false, decide_eq_false_iff_not, decide_eq_true_eq] at *)
    have hma : mayB c = true := by assumption
    obtain ⟨hw1, hw2, hx20⟩ := may_times hma
    have hok : madeOk c := ⟨by omega, by omega, by omega, hma⟩
    refine rd ΦMd_ok 20 [1, 2, 3, 5, 11] (And.intro hw1 (And.intro hw2 szE)) ?_
    refine rg ΦMd_ok [1, 2, 3, 5, 11, 80] szE ?_
    refine cn ?_ ?_
    ·intro h; try exact na h
     all_goals
      refine rg ΦMd_ok [1, 2, 3, 5, 11, 12] szE ?_
      refine rg ΦMd_ok [1, 2, 3, 5, 11, 12, 82, 83, 84] szE ?_
      refine nx ?_
      refine VC.loopP (ι := Nat × List T) [1, 2, 3, 5, 11, 82, 83] (fun z => [(12, .sl 40 0 z.2.length), (84, .dat (.int .i64 (z.1 : Int)))]) (fun z => [(1, .cells [.dat (.lst (bytesD c.ser)), .dat (.int .i64 c.way), .dat (.int .i64 c.hash), .dat (.lst (rdsD c.iss)), .dat (.int .i64 c.frm), .dat (.int .i64 c.til), .dat (.lst (rdsD c.sub)), .dat (.lst (bytesD c.key.n)), .dat (.lst (bytesD c.key.e)), .dat (.lst (bytesD c.key.d)), .dat (.lst (exsD c.exts)), .dat (.lst (bytesD c.sig))] false), (2, .cells [.dat (.int .i64 0), .dat (.int .i64 0), .dat (.bool false), .nilsl, .nilsl] false), (3, .cells [.dat (.int .i64 0), .dat (.int .i64 0), .dat (.bool false), .nilsl, .nilsl] false), (4, .cells [.dat (.int .i64 (signT c.way c.hash).cls), .dat (.int .i64 (signT c.way c.hash).tag), .dat (.bool (signT c.way c.hash).cons), .dat (.lst (bytesD (signT c.way c.hash).bytes)), .dat (.lst (nodesD (signT c.way c.hash).kids))] false), (7, .arr 25 5 (nodesD (partL c)) 0), (40, .arr 25 5 (nodesD z.2) 0)]) (fun z => z.1 ≤ c.exts.length ∧ z.2 = (c.exts.take z.1).map extT) (fun z => c.exts.length - z.1) (0, []) ⟨Nat.zero_le _, rfl⟩ ?_ ?_
      ·refine (Ent.nilT 12 40 25 5 (by decide) (by simp -implicitDefEqProofs only [go_sem]) (by simp -implicitDefEqProofs only [go_sem])).trans (Ent.to rfl rfl rfl ?_ ?_)
       ·simp -implicitDefEqProofs only [go_sem]; (try simp only [D.dat.injEq, Vm.Data.int.injEq, true_and, and_true, and_self, eq_self]); (try omega); (try ((repeat' apply And.intro) <;> first | omega | rfl))
       ·(repeat' (first | exact all_nil | (refine all_cons ?_ ?_))) <;> (simp -implicitDefEqProofs only [go_sem]; (try rfl); (try rw [nodesD_nil]); (try simp only [partL, nodesD_cons, nodesD_nil, nodeC_eq]))
      rintro ⟨i, l⟩ hp; (try dsimp only at hp); obtain ⟨hi, hl⟩ := hp
      have hll : l.length = i := by rw [hl, List.length_map, List.length_take]; omega
      have hsl : T.szs l ≤ 200030 * 20 := by rw [hl]; exact Nat.le_trans (exts_sz hxb i hi) (by omega)
      refine st0 ?_
      refine rg ΦMd_ok [1, 2, 3, 5, 11, 12, 82, 83, 84, 85] szE ?_
      refine cn ?_ ?_
      ·intro h; try exact na h
       all_goals
        have hxe := exsD_at (l := c.exts) (k := i) (by omega)
        have hxi := hxb i
        have hxs := ext_sz hxi
        refine rg ΦMd_ok [1, 2, 3, 5, 11, 12, 14, 82, 83, 84] hxe ?_
        refine rgL ΦMd_ok szE ?_
        refine rgL ΦMd_ok szE ?_
        refine nx ?_
        refine ⟨(i + 1, l ++ [extT (c.exts.getD i Ex.zero)]), ⟨by dsimp only; omega, by dsimp only; rw [hl]; exact (exts_take (by omega)).symm⟩, Ent.to rfl rfl rfl ?_ ?_, by dsimp only; omega⟩
        ·simp -implicitDefEqProofs only [go_sem]; (try simp only [List.length_append, List.length_cons, List.length_nil]); (try simp only [D.dat.injEq, Vm.Data.int.injEq, true_and, and_true, and_self, eq_self]); (try omega); (try ((repeat' apply And.intro) <;> first | omega | rfl))
        ·(repeat' (first | exact all_nil | (refine all_cons ?_ ?_))) <;> (simp -implicitDefEqProofs only [go_sem]; (try rfl); (try simp only [ext_row]))
      ·intro h; try exact na h
       all_goals
        have hlx : l = c.exts.map extT := by rw [hl, show i = c.exts.length by omega, List.take_length]
        have hnr := node_row (partL c) (inT 3 [seqT l])
        have hpy := part_y (by assumption) hlx
        have hsz2 : T.szs (partL c ++ [inT 3 [seqT l]]) ≤ 5000000 := by
         have := part_sz hc hx20
         rw [← hpy, sz_seq] at this; omega
        refine rgL ΦMd_ok (And.intro (take7 c) (And.intro (take8 c (inT 3 [seqT l])) (And.intro hnr szE))) ?_
        first
        | have hpp := And.intro (take7 c) (And.intro (take8 c (inT 3 [seqT l])) (And.intro hnr (And.intro hsz2 hpy)))
        | (have hpy2 := part_n (c := c) (by assumption)
           have hsz3 := partL_sz hc
           unfold partL at hpy2 hsz3
           have hpp := And.intro hsz3 hpy2)
        have hpz := part_sz hc hx20
        have haz := allc_sz hc hx20
        refine rg ΦMd_ok [1, 2, 3, 5, 15] hpp ?_
        try clear hpp
        try clear hpy2
        try clear hsz3
        try clear hsz2
        try clear hpy
        try clear hnr
        try clear hlx
        refine rdA ΦMd_ok 7 16 25 [2, 3, 15, 16] (And.intro (show seqT [partT c, signT c.way c.hash, bitT c.sig] = allT c from rfl) szE) ?_
        refine rg ΦMd_ok [2, 3, 15, 16, 18] szE ?_
        refine rg ΦMd_ok [2, 3, 15, 16, 18, 116] szE ?_
        refine cn ?_ ?_
        ·intro h; try exact na h
         all_goals
          have hy := And.intro (made_l hok (by assumption)) zeroE
          refine rg ΦMd_ok [2, 3, 4] szE ?_
          first
          | exact fz hy
        ·intro h; try exact na h
         all_goals
          have hy := made_y hok (by omega)
          refine dT ΦMd_ok (.alt 0 (.alt 1 (.alt 2 (.alt 3 (.alt 4 .stop .done) .done) .done) (.alt 2 (.alt 1 (.alt 3 (.alt 4 .stop .done) .done) .done) .done)) (.alt 1 (.alt 0 (.alt 2 (.alt 3 (.alt 4 .stop .done) .done) .done) .done) .done)) [2, 3, 4] szE ?_
          first
          | exact fz hy
    ·intro h; try exact na h
     all_goals
      first
      | have hpp := And.intro (take7 c) (And.intro (take8 c (inT 3 [seqT l])) (And.intro hnr (And.intro hsz2 hpy)))
      | (have hpy2 := part_n (c := c) (by assumption)
         have hsz3 := partL_sz hc
         unfold partL at hpy2 hsz3
         have hpp := And.intro hsz3 hpy2)
      have hpz := part_sz hc hx20
      have haz := allc_sz hc hx20
      refine rg ΦMd_ok [1, 2, 3, 5, 15] hpp ?_
      try clear hpp
      try clear hpy2
      try clear hsz3
      try clear hsz2
      try clear hpy
      try clear hnr
      try clear hlx
      refine rdA ΦMd_ok 7 16 25 [2, 3, 15, 16] (And.intro (show seqT [partT c, signT c.way c.hash, bitT c.sig] = allT c from rfl) szE) ?_
      refine rg ΦMd_ok [2, 3, 15, 16, 18] szE ?_
      refine rg ΦMd_ok [2, 3, 15, 16, 18, 116] szE ?_
      refine cn ?_ ?_
      ·intro h; try exact na h
       all_goals
        have hy := And.intro (made_l hok (by assumption)) zeroE
        refine rg ΦMd_ok [2, 3, 4] szE ?_
        first
        | exact fz hy
      ·intro h; try exact na h
       all_goals
        have hy := made_y hok (by omega)
        refine dT ΦMd_ok (.alt 0 (.alt 1 (.alt 2 (.alt 3 (.alt 4 .stop .done) .done) .done) (.alt 2 (.alt 1 (.alt 3 (.alt 4 .stop .done) .done) .done) .done)) (.alt 1 (.alt 0 (.alt 2 (.alt 3 (.alt 4 .stop .done) .done) .done) .done) .done)) [2, 3, 4] szE ?_
        first
        | exact fz hy)
end Go.Proofs.YtpajpkbipagjpaaGreatDoor.Oc
namespace Go.Proofs.YtpajpkbipagjpaaGreatDoor.Oc
open Go Go.RowKit Go.Proofs.YtpajpkbipagjpaaGreatDoor.Vm Go.Proofs.YtpajpkbipagjpaaGreatDoor.Tr Go.IntWalk
set_option maxRecDepth 100000
set_option maxHeartbeats 4000000
def goodB (t : T) : Bool := decide (t.cls = 0) && ((t.cons && (decide (t.bytes = []) && decide (t.tag = 16 ∨ t.tag = 17))) || (!t.cons && (decide (t.kids = []) && (decide (t.tag = 5 ∧ t.bytes = []) || (decide (t.tag = 6) && oidB t.bytes)))))
theorem goodB_ok {t : T} (h : goodB t = true) : goodN t := by
 unfold goodB at h
 simp only [Bool.and_eq_true, Bool.or_eq_true, decide_eq_true_eq, Bool.not_eq_eq_eq_not, Bool.not_true] at h
 exact h
def smallB (t : T) : Bool := t.all.all goodB && (decide (dep t ≤ 24) && (decide (t.all.length ≤ 4000) && (decide (t.sz ≤ 100) && t.all.all fun x => !(decide (x.cls = 0 ∧ x.tag = 17)))))
theorem smallB_ok {t : T} (h : smallB t = true) : smallT t := by
 unfold smallB at h
 simp only [Bool.and_eq_true, List.all_eq_true, decide_eq_true_eq, Bool.not_eq_eq_eq_not, Bool.not_true, decide_eq_false_iff_not] at h
 obtain ⟨h1, h2, h3, h4, h5⟩ := h
 exact ⟨⟨fun x hx => goodB_ok (h1 x hx), h2, h3, by omega⟩, h4, fun x hx => h5 x hx⟩
theorem dec_rfl {α : Type} [DecidableEq α] (a : α) : decide (a = a) = true := decide_eq_true rfl
theorem enc_pos (t : T) : 0 < (encT t).length := by rw [encT_len]; omega
noncomputable def ΦTD : Fns := tab [(37, encodeF), (101, hexcF)]
theorem ΦTD_ok : Sound E ΦTD := sound_cons (by kernel_rfl) encode_ok (sound_cons (by kernel_rfl) hexc_ok (sound_nil))
@[go_sem] theorem ΦTD_r : ΦTD 37 = some encodeF ∧ ΦTD 101 = some hexcF := ⟨rfl, rfl⟩
@[go_sem] noncomputable def told1F : PFn := PF [ST, SI .i64, SS] (fun (t : T) (e : Int) (s : List UInt8) => e = 0 ∧ smallT t ∧ hexS (encT t) = s) (fun (t : T) (e : Int) (s : List UInt8) => [.bool true])
theorem told1_ok : Pure E 39 told1F := Pure.of_sig (rs := [.tmp 6]) (n := 26) Tryz.func39 rfl rfl rfl (Nat.le_of_ble_eq_true rfl) (by
 intro (t : T) (e : Int) (s : List UInt8) hds
 obtain ⟨rfl, hs, rfl⟩ := hds
 have hen := enc_le (t := t) (by have := hs.2.1; omega)
 have hep := enc_pos t
 have hs1 := hs.2.1
 have hE := And.intro hs (dec_rfl (hexS (encT t)))
 refine st0 ?_
 refine rg ΦTD_ok [1, 2, 3] hE ?_
 refine rg ΦTD_ok [1, 2, 7, 8] hE ?_
 refine rB ΦTD_ok [6] hE fun K' hK => ?_
 repeat' first | (refine lf hK hE ?_; clear hK K') | with_reducible apply And.intro | refine sA hE (fun _ => ?_) fun _ => ?_ | refine sAb hE (fun _ => ?_) fun _ => ?_ | refine sAl hE (fun g => ?_) fun g => ?_ | exact sd | exact sde hE | exact sdp hE | refine stk hE ?_ | fail
 all_goals
  exact fz hE)
def ahx1 : List UInt8 := [51, 48, 48, 100, 48, 54, 48, 57, 54, 48, 56, 54, 52, 56, 48, 49, 54, 53, 48, 51, 48, 52, 48, 50, 48, 49, 48, 53, 48, 48]
def ahx2 : List UInt8 := [51, 48, 48, 98, 48, 54, 48, 57, 54, 48, 56, 54, 52, 56, 48, 49, 54, 53, 48, 51, 48, 52, 48, 50, 48, 49]
def ahx3 : List UInt8 := [51, 48, 48, 100, 48, 54, 48, 57, 50, 97, 56, 54, 52, 56, 56, 54, 102, 55, 48, 100, 48, 49, 48, 49, 48, 98, 48, 53, 48, 48]
theorem al1 : smallT (hashT 2 true) ∧ hexS (encT (hashT 2 true)) = ahx1 ∧ sizeH 2 = 32 := ⟨smallB_ok (by decide +kernel), by decide +kernel, rfl⟩
theorem al2 : smallT (hashT 2 false) ∧ hexS (encT (hashT 2 false)) = ahx2 := ⟨smallB_ok (by decide +kernel), by decide +kernel⟩
theorem al3 : smallT (signT 1 2) ∧ hexS (encT (signT 1 2)) = ahx3 ∧ signE 1 2 = 0 := ⟨smallB_ok (by decide +kernel), by decide +kernel, by decide +kernel⟩
noncomputable def ΦAL : Fns := tab [(11, halgF), (13, salgF), (39, told1F)]
theorem ΦAL_ok : Sound E ΦAL := sound_cons (by kernel_rfl) halg_ok (sound_cons (by kernel_rfl) salg_ok (sound_cons (by kernel_rfl) told1_ok (sound_nil)))
@[go_sem] theorem ΦAL_r : ΦAL 11 = some halgF ∧ ΦAL 13 = some salgF ∧ ΦAL 39 = some told1F := ⟨rfl, rfl, rfl⟩
@[go_sem] noncomputable def aliveF : PFn := PF [] (True) ([.bool true])
theorem alive_ok : Pure E 30 aliveF := Pure.of_sig (rs := [.tmp 0]) (n := 32) Tryz.func30 rfl rfl rfl (Nat.le_of_ble_eq_true rfl) (by
 intro hds
 have hE := And.intro al1 (And.intro al2 al3)
 unfold ahx1 ahx2 ahx3 at hE
 refine st0 ?_
 refine rg ΦAL_ok [] hE ?_
 refine rg ΦAL_ok [1, 2] hE ?_
 refine rg ΦAL_ok [1, 2, 3, 4] hE ?_
 refine rg ΦAL_ok [1, 2, 3, 4, 5, 6] hE ?_
 refine rB ΦAL_ok [0] hE fun K' hK => ?_
 repeat' first | (refine lf hK hE ?_; clear hK K') | with_reducible apply And.intro | refine sA hE (fun _ => ?_) fun _ => ?_ | refine sAb hE (fun _ => ?_) fun _ => ?_ | refine sAl hE (fun g => ?_) fun g => ?_ | exact sd | exact sde hE | exact sdp hE | refine stk hE ?_ | fail
 all_goals
  exact fz hE)
end Go.Proofs.YtpajpkbipagjpaaGreatDoor.Oc
namespace Go.Proofs.YtpajpkbipagjpaaGreatDoor.Oc
open Go Go.RowKit Go.Proofs.YtpajpkbipagjpaaGreatDoor.Vm Go.Proofs.YtpajpkbipagjpaaGreatDoor.Tr Go.IntWalk
set_option maxRecDepth 100000
set_option maxHeartbeats 4000000
theorem sg_fin : ∀ (w : Fin 2) (q : Fin 4), signE ((w.val : Int) + 1) ((q.val : Int) + 1) = 0 ∧ rdSE (signT ((w.val : Int) + 1) ((q.val : Int) + 1)) = 0 ∧ rdSW (signT ((w.val : Int) + 1) ((q.val : Int) + 1)) = (w.val : Int) + 1 ∧ rdSH (signT ((w.val : Int) + 1) ((q.val : Int) + 1)) = (q.val : Int) + 1 := by decide +kernel
theorem sg_zero : rdSE T.zero = 200 ∧ rdSW T.zero = 0 ∧ rdSH T.zero = 0 := by decide +kernel
theorem sg_back (w q : Int) : (signE w q = 0 ∧ rdSE (signT w q) = 0 ∧ rdSW (signT w q) = w ∧ rdSH (signT w q) = q) ∨ (signE w q = 200 ∧ rdSE (signT w q) = 200) := by
 by_cases hq : sizeH q = 0
 ·right
  unfold signE signT; rw [if_pos hq, if_pos hq]; exact ⟨rfl, sg_zero.1⟩
 ·have hh : q = 1 ∨ q = 2 ∨ q = 3 ∨ q = 4 := by unfold sizeH at hq; (repeat' split at hq) <;> omega
  by_cases hw : w = 1 ∨ w = 2
  ·left
   have := sg_fin ⟨w.toNat - 1, by omega⟩ ⟨q.toNat - 1, by omega⟩
   simp only [show ((w.toNat - 1 : Nat) : Int) + 1 = w by omega, show ((q.toNat - 1 : Nat) : Int) + 1 = q by omega] at this
   exact this
  ·right
   unfold signE signT; rw [if_neg hq, if_neg hq, if_neg (by omega), if_neg (by omega), if_neg (by omega), if_neg (by omega)]; exact ⟨rfl, sg_zero.1⟩
theorem kd_fin : idxK (nameOf (namedB (kindN 1))) = 1 ∧ idxK (nameOf (namedB (kindN 2))) = 2 ∧ idxK (nameOf (namedB (kindN 3))) = 3 := by decide +kernel
theorem rd_back {r : Rd} (h : partB r = true) : rdOf (rdnT r) = r := by
 obtain ⟨_, h1, h2⟩ := part_len h
 have hk : r.kind = 1 ∨ r.kind = 2 ∨ r.kind = 3 := by omega
 obtain ⟨k, s, b⟩ := r
 have e : rdOf (rdnT ⟨k, s, b⟩) = ⟨idxK (nameOf (namedB (kindN k))), s, decide ((if b then 19 else 12 : Int) = 19)⟩ := rfl
 rw [e]
 have hb : decide ((if b then 19 else 12 : Int) = 19) = b := by cases b <;> rfl
 rw [hb]
 rcases hk with h | h | h <;> simp only at h <;> subst h
 ·rw [kd_fin.1]
 ·rw [kd_fin.2.1]
 ·rw [kd_fin.2.2]
theorem rn_back {n : List Rd} (h : nameOk n = true) : rnN (nameT n) = n := by
 unfold nameT rnN
 rw [h, if_pos rfl]
 show (n.map rdnT).map rdOf = n
 rw [List.map_map]
 unfold nameOk at h
 rw [Bool.and_eq_true, List.all_eq_true] at h
 exact (List.map_congr_left fun r hr => rd_back (h.2 r hr)).trans (List.map_id n)
theorem nm_back (n : List Rd) : (nameE n = 0 ∧ prnE (nameT n) = 0 ∧ prnN (nameT n) = n) ∨ (nameE n = 200 ∧ prnE (nameT n) = 200) := by
 cases h : nameOk n with
 | true =>
   left
   have e := rn_back h
   have h2 : rnOk (nameT n) = true := by unfold rnOk; rw [e, h, decide_eq_true rfl]; rfl
   obtain ⟨e1, e2⟩ := prn_t h2
   exact ⟨by unfold nameE; rw [h]; rfl, e2, e1.trans e⟩
 | false =>
   right
   have e : nameT n = T.zero := by unfold nameT; rw [h]; rfl
   refine ⟨by unfold nameE; rw [h]; rfl, ?_⟩
   rw [e]; decide +kernel
end Go.Proofs.YtpajpkbipagjpaaGreatDoor.Oc

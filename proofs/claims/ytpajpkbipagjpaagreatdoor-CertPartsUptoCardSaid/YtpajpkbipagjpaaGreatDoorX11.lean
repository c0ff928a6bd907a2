/- What functions of the program, of its library and of the document compute: their contracts, and laws about what they compute (X11). No condition. -/
import Derived.Shelf.Small.Strs
import Derived.Shelf.LaysM
import Derived.Shelf.LaysC
import Derived.Shelf.Strings.Search1
import Derived.Shelf.Strings.Search2
import Derived.Shelf.Strings.Search3
import Derived.Test.YtpajpkbipagjpaaGreatDoorProg
import Derived.Test.YtpajpkbipagjpaaGreatDoorX10
import Derived.Test.YtpajpkbipagjpaaGreatDoorX06
import Derived.Test.YtpajpkbipagjpaaGreatDoorX04
import Derived.Test.YtpajpkbipagjpaaGreatDoorX03
set_option linter.unusedVariables false
set_option linter.unusedSimpArgs false
namespace Go.Proofs
open Go.Shelf
def Tryz.lays137_ren : Go.Shelf.Ren := ⟨fun | 137 => 303 | 217 => 325 | 266 => 345 | n => n, fun | 9 => 9 | 5 => 5 | 3 => 3 | n => n, fun | n => n⟩
theorem Tryz.lays137 : Go.Proofs.Lays.n137 Tryz.prog Tryz.lays137_ren := {
 mixed := by kernel_rfl
 f137 := Tryz.func303.trans (congrArg some (by kernel_rfl))
 f217 := Tryz.func325.trans (congrArg some (by kernel_rfl))
 f266 := Tryz.func345.trans (congrArg some (by kernel_rfl))
 t3 := Tryz.underlying3
 a3 := Tryz.isAgg3
 z3 := Tryz.sizeOf3
 v3 := Tryz.zeroValue3
 t5 := Tryz.underlying5
 a5 := Tryz.isAgg5
 z5 := Tryz.sizeOf5
 v5 := Tryz.zeroValue5
 t9 := Tryz.underlying9
 a9 := Tryz.isAgg9
 z9 := Tryz.sizeOf9
 v9 := Tryz.zeroValue9 }
open Go.RowKit in
theorem Tryz.strings_IndexByte (s : ByteArray) (c : Int) (w : World) :
 Calls Tryz.prog 303 #[.string s, .int .u8 c] w fun e w' => e = .returned (.int .i64 (Lib.indexByte s.data.toList c.toNat.toUInt8)) ∧ w' = w := Any.strings_IndexByte Tryz.lays137 s c w
end Go.Proofs
namespace Go.Proofs.YtpajpkbipagjpaaGreatDoor.Oc
open Go Go.RowKit Go.Proofs.YtpajpkbipagjpaaGreatDoor.Vm Go.Proofs.YtpajpkbipagjpaaGreatDoor.Tr Go.IntWalk
set_option maxRecDepth 100000
set_option maxHeartbeats 4000000
def idbA (x : List UInt8 × Int) : List Vm.Data := [.str x.1, .int .u8 x.2]
theorem idb_inj (x y : List UInt8 × Int) (h : idbA x = idbA y) : x = y := by simpa [idbA, Prod.ext_iff] using h
noncomputable def idbF : PFn := PFn.of idbA (fun x => True) (fun x => [.int .i64 (Lib.indexByte x.1 x.2.toNat.toUInt8)])
@[go_sem] theorem idb_pre (s : List UInt8) (c : Int) : idbF.pre [.str s, .int .u8 c] = True := PFn.of_pre idb_inj (s, c)
@[go_sem] theorem idb_res (s : List UInt8) (c : Int) : idbF.res [.str s, .int .u8 c] = [.int .i64 (Lib.indexByte s c.toNat.toUInt8)] := PFn.of_res idb_inj (s, c)
theorem idb_ok : Pure E 303 idbF := by
 refine Pure.of_calls idb_inj ?_
 rintro w J args ⟨s, c⟩ hJ hG hargs _
 obtain ⟨v, v2, rfl, h1, h2⟩ := args2 hargs
 simp only [RV] at h1 h2
 subst h1 h2
 refine (Tryz.strings_IndexByte ⟨s.toArray⟩ c w).mono ?_
 rintro e w' ⟨rfl, rfl⟩
 exact ⟨_, rfl, Below.refl _ _, by simp only [retD, RVD, RV]⟩
def prtI (n : Int) : Bool := decide (0 ≤ Lib.indexByte signsB n.toNat.toUInt8)
theorem index_in (l : List UInt8) (c : UInt8) : (0 ≤ Lib.indexByte l c ↔ c ∈ l) ∧ -1 ≤ Lib.indexByte l c := by
 induction l with
 | nil => simp [Lib.indexByte]
 | cons b l ih =>
   unfold Lib.indexByte
   by_cases h : b = c
   ·subst h; simp
   ·have hb : (b == c) = false := by simpa using h
    rw [hb]
    simp only [Bool.false_eq_true, if_false, beq_iff_eq, List.mem_cons]
    split
    ·rename_i h1
     refine ⟨⟨fun h2 => by omega, fun h2 => ?_⟩, by omega⟩
     rcases h2 with h2 | h2
     ·exact absurd h2.symm h
     ·have := ih.1.2 h2; omega
    ·rename_i h1
     refine ⟨⟨fun h2 => .inr (ih.1.1 (by have := ih.2; omega)), fun h2 => ?_⟩, by have := ih.2; omega⟩
     rcases h2 with h2 | h2
     ·exact absurd h2.symm h
     ·have := ih.1.2 h2; omega
theorem prtI_eq (x : UInt8) : prtI (x.toNat : Int) = prt8 x := by
 unfold prtI prt8
 rw [show (x.toNat : Int).toNat.toUInt8 = x by simp, Bool.eq_iff_iff, decide_eq_true_eq, (index_in signsB x).1, List.contains_iff_mem]
noncomputable def ΦPR : Fns := tab [(303, idbF)]
theorem ΦPR_ok : Sound E ΦPR := sound_cons (by kernel_rfl) idb_ok (sound_nil)
@[go_sem] theorem ΦPR_r : ΦPR 303 = some idbF := rfl
@[go_sem] noncomputable def prtF : PFn := PF [SI .u8] (fun (c : Int) => True) (fun (c : Int) => [.bool (prtI c)])
theorem prt_ok : Pure E 302 prtF := Pure.of_sig (rs := [.tmp 2]) (n := 6) Tryz.func302 rfl rfl rfl (Nat.le_of_ble_eq_true rfl) (by
 intro (c : Int) hds
 refine st0 ?_
 refine rg ΦPR_ok [0] trivial ?_
 refine rg ΦPR_ok [2] trivial ?_
 refine fi trivial ?_
 rfl)
end Go.Proofs.YtpajpkbipagjpaaGreatDoor.Oc
namespace Go.Proofs.YtpajpkbipagjpaaGreatDoor.Tr
open Go Go.RowKit Go.Proofs.YtpajpkbipagjpaaGreatDoor.Vm
theorem primC (g : Int) (b : List UInt8) : nodeC (primT g b) = [.int .i64 0, .int .i64 g, .bool false, .lst (bytesD b), .lst []] := by
 unfold primT; rw [nodeC, nodesD_nil]
theorem primC_inj {g : Int} {a b : List UInt8} (h : nodeC (primT g a) = nodeC (primT g b)) : a = b := by
 have := nodeC_inj h
 unfold primT at this; injection this
@[reducible] def SNp (g : Int) : Sig := ⟨List UInt8, fun b => .agg (nodeC (primT g b)), fun _ _ h => by injection h with h; exact primC_inj h⟩
@[reducible] def SPp (g : Int) : Sig := ⟨List UInt8, fun b => .ptr (nodeC (primT g b)), fun _ _ h => by injection h with h; exact primC_inj h⟩
theorem SNp_enc {g : Int} {b : List UInt8} : (SNp g).enc b = .agg (nodeC (primT g b)) := rfl
theorem SPp_enc {g : Int} {b : List UInt8} : (SPp g).enc b = .ptr (nodeC (primT g b)) := rfl
theorem SNp_dec {g : Int} {b : List UInt8} : (SNp g).dec (.agg [.int .i64 0, .int .i64 g, .bool false, .lst (bytesD b), .lst []]) = some b := by
 have := (SNp g).dec_enc b
 rwa [SNp_enc, primC] at this
theorem SPp_dec {g : Int} {b : List UInt8} : (SPp g).dec (.ptr [.int .i64 0, .int .i64 g, .bool false, .lst (bytesD b), .lst []]) = some b := by
 have := (SPp g).dec_enc b
 rwa [SPp_enc, primC] at this
section
variable {β : Type} {z : β} {ss : List Sig} {ds : List Vm.Data} {g : Int}
theorem ap_SNp {f : Fun (SNp g :: ss) β} {b : List UInt8} : ap z (SNp g :: ss) f (.agg [.int .i64 0, .int .i64 g, .bool false, .lst (bytesD b), .lst []] :: ds) = ap z ss (f b) ds := by rw [ap_cons, SNp_dec, apO_some]
theorem ap_SPp {f : Fun (SPp g :: ss) β} {b : List UInt8} : ap z (SPp g :: ss) f (.ptr [.int .i64 0, .int .i64 g, .bool false, .lst (bytesD b), .lst []] :: ds) = ap z ss (f b) ds := by rw [ap_cons, SPp_dec, apO_some]
end
theorem leafE (g : Int) (b : List UInt8) : (primT g b).cls = 0 ∧ (primT g b).tag = g ∧ (primT g b).cons = false ∧ (primT g b).bytes = b ∧ (primT g b).kids = [] ∧ nodesD [] = [] := ⟨rfl, rfl, rfl, rfl, rfl, nodesD_nil⟩
attribute [go_sem] SNp_enc SPp_enc ap_SNp ap_SPp
end Go.Proofs.YtpajpkbipagjpaaGreatDoor.Tr
namespace Go.Proofs.YtpajpkbipagjpaaGreatDoor.Oc
open Go Go.RowKit Go.Proofs.YtpajpkbipagjpaaGreatDoor.Vm Go.Proofs.YtpajpkbipagjpaaGreatDoor.Tr Go.IntWalk
set_option maxRecDepth 100000
set_option maxHeartbeats 4000000
noncomputable def ΦB12 : Fns := tab [(301, uvalidF)]
theorem ΦB12_ok : Sound E ΦB12 := sound_cons (by kernel_rfl) uvalid_ok (sound_nil)
@[go_sem] theorem ΦB12_r : ΦB12 301 = some uvalidF ∧ ΦB12 252 = none := ⟨rfl, rfl⟩
@[go_sem] theorem ΦB12_c : callable Tryz.prog 252 = true := by kernel_rfl
@[go_sem] noncomputable def brk12F : PFn := PF [SPp 12] (fun (b : List UInt8) => b.length ≤ 4611686018427387904) (fun (b : List UInt8) => [.int .i64 (if validB b then 0 else 4)])
theorem brk12_ok : Pure E 211 brk12F := Pure.of_sig (rs := [.tmp 2]) (n := 110) Tryz.func211 rfl rfl rfl (Nat.le_of_ble_eq_true rfl) (by
 intro (b : List UInt8) hds
 refine st0 ?_
 refine rg ΦB12_ok [0] (leafE 12 b) ?_
 refine rB ΦB12_ok [0, 5] (leafE 12 b) fun K' hK => ?_
 repeat' first | (refine lf hK (leafE 12 b) ?_; clear hK K') | with_reducible apply And.intro | refine sA (leafE 12 b) (fun _ => ?_) fun _ => ?_ | refine sAb (leafE 12 b) (fun _ => ?_) fun _ => ?_ | refine sAl (leafE 12 b) (fun g => ?_) fun g => ?_ | exact sd | exact sde (leafE 12 b) | exact sdp (leafE 12 b) | refine stk (leafE 12 b) ?_ | fail
 all_goals
  refine cn ?_ ?_
  ·intro h; try exact absurd h (by decide)
   try (exfalso; (try simp only [Bool.not_eq_eq_eq_not, Bool.not_true, Bool.not_false, decide_eq_false_iff_not, decide_eq_true_eq] at *); first | omega | (have g0 := g rfl; omega) | (simp_all; done))
  intro h; try exact absurd h (by decide)
  try (exfalso; (try simp only [Bool.not_eq_eq_eq_not, Bool.not_true, Bool.not_false, decide_eq_false_iff_not, decide_eq_true_eq] at *); first | omega | (have g0 := g rfl; omega) | (simp_all; done))
  refine rB ΦB12_ok [0, 32] (leafE 12 b) fun K' hK => ?_
  repeat' first | (refine lf hK (leafE 12 b) ?_; clear hK K') | with_reducible apply And.intro | refine sA (leafE 12 b) (fun _ => ?_) fun _ => ?_ | refine sAb (leafE 12 b) (fun _ => ?_) fun _ => ?_ | refine sAl (leafE 12 b) (fun g => ?_) fun g => ?_ | exact sd | exact sde (leafE 12 b) | exact sdp (leafE 12 b) | refine stk (leafE 12 b) ?_ | fail
  all_goals
   refine cn ?_ ?_
   ·intro h; try exact absurd h (by decide)
    try (exfalso; (try simp only [Bool.not_eq_eq_eq_not, Bool.not_true, Bool.not_false, decide_eq_false_iff_not, decide_eq_true_eq] at *); first | omega | (have g0 := g rfl; omega) | (simp_all; done))
   intro h; try exact absurd h (by decide)
   try (exfalso; (try simp only [Bool.not_eq_eq_eq_not, Bool.not_true, Bool.not_false, decide_eq_false_iff_not, decide_eq_true_eq] at *); first | omega | (have g0 := g rfl; omega) | (simp_all; done))
   refine rg ΦB12_ok [0, 60] (leafE 12 b) ?_
   refine cn ?_ ?_
   ·intro h; try exact absurd h (by decide)
    try (exfalso; (try simp only [Bool.not_eq_eq_eq_not, Bool.not_true, Bool.not_false, decide_eq_false_iff_not, decide_eq_true_eq] at *); first | omega | (have g0 := g rfl; omega) | (simp_all; done))
   intro h; try exact absurd h (by decide)
   try (exfalso; (try simp only [Bool.not_eq_eq_eq_not, Bool.not_true, Bool.not_false, decide_eq_false_iff_not, decide_eq_true_eq] at *); first | omega | (have g0 := g rfl; omega) | (simp_all; done))
   refine rB ΦB12_ok [0, 3] (leafE 12 b) fun K' hK => ?_
   repeat' first | (refine lf hK (leafE 12 b) ?_; clear hK K') | with_reducible apply And.intro | refine sA (leafE 12 b) (fun _ => ?_) fun _ => ?_ | refine sAb (leafE 12 b) (fun _ => ?_) fun _ => ?_ | refine sAl (leafE 12 b) (fun g => ?_) fun g => ?_ | exact sd | exact sde (leafE 12 b) | exact sdp (leafE 12 b) | refine stk (leafE 12 b) ?_ | fail
   all_goals
    refine rB ΦB12_ok [0, 3, 4] (leafE 12 b) fun K' hK => ?_
    repeat' first | with_reducible apply And.intro | exact sd | exact sde (leafE 12 b) | exact sdp (leafE 12 b) | refine stk (leafE 12 b) ?_ | fail
    refine ec (rs := [.tmp 2]) (n := 34) Tryz.func252 rfl rfl rfl ?_
    refine rg ΦB12_ok [0] trivial ?_
    refine rg ΦB12_ok [0, 3] trivial ?_
    refine rg ΦB12_ok [3, 4] trivial ?_
    refine rg ΦB12_ok [3, 4, 5] trivial ?_
    refine cn ?_ ?_
    ·intro h; try exact absurd h (by decide)
     try (exfalso; (try simp only [Bool.not_eq_eq_eq_not, Bool.not_true, Bool.not_false, decide_eq_false_iff_not, decide_eq_true_eq] at *); first | omega | (have g0 := g rfl; omega) | (simp_all; done))
    intro h; try exact absurd h (by decide)
    try (exfalso; (try simp only [Bool.not_eq_eq_eq_not, Bool.not_true, Bool.not_false, decide_eq_false_iff_not, decide_eq_true_eq] at *); first | omega | (have g0 := g rfl; omega) | (simp_all; done))
    refine rg ΦB12_ok [3, 4, 7] trivial ?_
    refine cn ?_ ?_
    ·intro h; try exact absurd h (by decide)
     try (exfalso; (try simp only [Bool.not_eq_eq_eq_not, Bool.not_true, Bool.not_false, decide_eq_false_iff_not, decide_eq_true_eq] at *); first | omega | (have g0 := g rfl; omega) | (simp_all; done))
    intro h; try exact absurd h (by decide)
    try (exfalso; (try simp only [Bool.not_eq_eq_eq_not, Bool.not_true, Bool.not_false, decide_eq_false_iff_not, decide_eq_true_eq] at *); first | omega | (have g0 := g rfl; omega) | (simp_all; done))
    refine rgL ΦB12_ok trivial ?_
    refine cn ?_ ?_
    ·intro h; try exact absurd h (by decide)
     try (exfalso; (try simp only [Bool.not_eq_eq_eq_not, Bool.not_true, Bool.not_false, decide_eq_false_iff_not, decide_eq_true_eq] at *); first | omega | (have g0 := g rfl; omega) | (simp_all; done))
    intro h; try exact absurd h (by decide)
    try (exfalso; (try simp only [Bool.not_eq_eq_eq_not, Bool.not_true, Bool.not_false, decide_eq_false_iff_not, decide_eq_true_eq] at *); first | omega | (have g0 := g rfl; omega) | (simp_all; done))
    refine rg ΦB12_ok [3, 4, 10] trivial ?_
    refine cn ?_ ?_
    ·intro h; try exact absurd h (by decide)
     try (exfalso; (try simp only [Bool.not_eq_eq_eq_not, Bool.not_true, Bool.not_false, decide_eq_false_iff_not, decide_eq_true_eq] at *); first | omega | (have g0 := g rfl; omega) | (simp_all; done))
    intro h; try exact absurd h (by decide)
    try (exfalso; (try simp only [Bool.not_eq_eq_eq_not, Bool.not_true, Bool.not_false, decide_eq_false_iff_not, decide_eq_true_eq] at *); first | omega | (have g0 := g rfl; omega) | (simp_all; done))
    refine rg ΦB12_ok [3, 4, 12] trivial ?_
    refine cn ?_ ?_
    ·intro h; try exact absurd h (by decide)
     try (exfalso; (try simp only [Bool.not_eq_eq_eq_not, Bool.not_true, Bool.not_false, decide_eq_false_iff_not, decide_eq_true_eq] at *); first | omega | (have g0 := g rfl; omega) | (simp_all; done))
    intro h; try exact absurd h (by decide)
    try (exfalso; (try simp only [Bool.not_eq_eq_eq_not, Bool.not_true, Bool.not_false, decide_eq_false_iff_not, decide_eq_true_eq] at *); first | omega | (have g0 := g rfl; omega) | (simp_all; done))
    refine rg ΦB12_ok [3, 4, 16] trivial ?_
    refine cn ?_ ?_
    ·intro h; try exact absurd h (by decide)
     try (exfalso; (try simp only [Bool.not_eq_eq_eq_not, Bool.not_true, Bool.not_false, decide_eq_false_iff_not, decide_eq_true_eq] at *); first | omega | (have g0 := g rfl; omega) | (simp_all; done))
    intro h; try exact absurd h (by decide)
    try (exfalso; (try simp only [Bool.not_eq_eq_eq_not, Bool.not_true, Bool.not_false, decide_eq_false_iff_not, decide_eq_true_eq] at *); first | omega | (have g0 := g rfl; omega) | (simp_all; done))
    refine rg ΦB12_ok [3, 4, 18] trivial ?_
    refine cn ?_ ?_
    ·intro h; try exact absurd h (by decide)
     try (exfalso; (try simp only [Bool.not_eq_eq_eq_not, Bool.not_true, Bool.not_false, decide_eq_false_iff_not, decide_eq_true_eq] at *); first | omega | (have g0 := g rfl; omega) | (simp_all; done))
    intro h; try exact absurd h (by decide)
    try (exfalso; (try simp only [Bool.not_eq_eq_eq_not, Bool.not_true, Bool.not_false, decide_eq_false_iff_not, decide_eq_true_eq] at *); first | omega | (have g0 := g rfl; omega) | (simp_all; done))
    refine rg ΦB12_ok [3, 4, 20] trivial ?_
    refine cn ?_ ?_
    ·intro h; try exact absurd h (by decide)
     try (exfalso; (try simp only [Bool.not_eq_eq_eq_not, Bool.not_true, Bool.not_false, decide_eq_false_iff_not, decide_eq_true_eq] at *); first | omega | (have g0 := g rfl; omega) | (simp_all; done))
     all_goals
      refine rg ΦB12_ok [2] trivial ?_
      refine nx ?_
      refine rt (leafE 12 b) ?_
      repeat' first | (refine lf hK (leafE 12 b) ?_; clear hK K') | with_reducible apply And.intro | exact sd | exact sde (leafE 12 b) | exact sdp (leafE 12 b) | refine stk (leafE 12 b) ?_ | fail
      all_goals
       refine rB ΦB12_ok [0, 3, 4, 83] (leafE 12 b) fun K' hK => ?_
       repeat' first | (refine lf hK (leafE 12 b) ?_; clear hK K') | with_reducible apply And.intro | refine sA (leafE 12 b) (fun _ => ?_) fun _ => ?_ | refine sAb (leafE 12 b) (fun _ => ?_) fun _ => ?_ | refine sAl (leafE 12 b) (fun g => ?_) fun g => ?_ | exact sd | exact sde (leafE 12 b) | exact sdp (leafE 12 b) | refine stk (leafE 12 b) ?_ | fail
       all_goals
        refine cn ?_ ?_
        ·intro h; try exact absurd h (by decide)
         try (exfalso; (try simp only [Bool.not_eq_eq_eq_not, Bool.not_true, Bool.not_false, decide_eq_false_iff_not, decide_eq_true_eq] at *); first | omega | (have g0 := g rfl; omega) | (simp_all; done))
        intro h; try exact absurd h (by decide)
        try (exfalso; (try simp only [Bool.not_eq_eq_eq_not, Bool.not_true, Bool.not_false, decide_eq_false_iff_not, decide_eq_true_eq] at *); first | omega | (have g0 := g rfl; omega) | (simp_all; done))
        refine rB ΦB12_ok [98] (leafE 12 b) fun K' hK => ?_
        repeat' first | (refine lf hK (leafE 12 b) ?_; clear hK K') | with_reducible apply And.intro | refine sA (leafE 12 b) (fun _ => ?_) fun _ => ?_ | refine sAb (leafE 12 b) (fun _ => ?_) fun _ => ?_ | refine sAl (leafE 12 b) (fun g => ?_) fun g => ?_ | exact sd | exact sde (leafE 12 b) | exact sdp (leafE 12 b) | refine stk (leafE 12 b) ?_ | fail
        all_goals
         refine cn ?_ ?_
         ·intro h; try exact absurd h (by decide)
          try (exfalso; (try simp only [Bool.not_eq_eq_eq_not, Bool.not_true, Bool.not_false, decide_eq_false_iff_not, decide_eq_true_eq] at *); first | omega | (have g0 := g rfl; omega) | (simp_all; done))
          all_goals
           have hy : (if validB b = true then 0 else 4 : Int) = 4 := if_neg (by simp_all)
           refine rg ΦB12_ok [2] (leafE 12 b) ?_
           first
           | exact fz hy
         ·intro h; try exact absurd h (by decide)
          try (exfalso; (try simp only [Bool.not_eq_eq_eq_not, Bool.not_true, Bool.not_false, decide_eq_false_iff_not, decide_eq_true_eq] at *); first | omega | (have g0 := g rfl; omega) | (simp_all; done))
          all_goals
           have hy : (if validB b = true then 0 else 4 : Int) = 0 := if_pos (by simp_all)
           refine rg ΦB12_ok [2] (leafE 12 b) ?_
           first
           | exact fz hy
    ·intro h; try exact absurd h (by decide)
     try (exfalso; (try simp only [Bool.not_eq_eq_eq_not, Bool.not_true, Bool.not_false, decide_eq_false_iff_not, decide_eq_true_eq] at *); first | omega | (have g0 := g rfl; omega) | (simp_all; done)))
end Go.Proofs.YtpajpkbipagjpaaGreatDoor.Oc
namespace Go.Proofs.YtpajpkbipagjpaaGreatDoor.Oc
open Go Go.RowKit Go.Proofs.YtpajpkbipagjpaaGreatDoor.Vm Go.Proofs.YtpajpkbipagjpaaGreatDoor.Tr Go.IntWalk
set_option maxRecDepth 100000
set_option maxHeartbeats 4000000
theorem all_of {b : List UInt8} {i : Nat} (h : ∀ j, j < i → prt8 (b.getD j 0) = true) (hi : b.length ≤ i) : b.all prt8 = true := by
 rw [List.all_eq_true]
 intro x hx
 obtain ⟨j, hj, rfl⟩ := List.mem_iff_getElem.1 hx
 have := h j (by omega)
 rwa [List.getD_eq_getElem?_getD, List.getElem?_eq_getElem hj] at this
theorem not_of {b : List UInt8} {i : Nat} (hi : i < b.length) (h : prt8 (b.getD i 0) = false) : ¬ b.all prt8 = true := by
 rw [List.all_eq_true]
 intro hx
 have := hx (b.getD i 0) (by rw [List.getD_eq_getElem?_getD, List.getElem?_eq_getElem hi]; exact List.getElem_mem hi)
 rw [h] at this; cases this
noncomputable def ΦB19 : Fns := tab [(302, prtF)]
theorem ΦB19_ok : Sound E ΦB19 := sound_cons (by kernel_rfl) prt_ok (sound_nil)
@[go_sem] theorem ΦB19_r : ΦB19 302 = some prtF ∧ ΦB19 252 = none ∧ ΦB19 291 = none ∧ ΦB19 292 = none ∧ ΦB19 294 = none ∧ ΦB19 293 = none ∧ ΦB19 331 = none := ⟨rfl, rfl, rfl, rfl, rfl, rfl, rfl⟩
@[go_sem] theorem ΦB19_c : callable Tryz.prog 252 = true ∧ callable Tryz.prog 291 = true ∧ callable Tryz.prog 292 = true ∧ callable Tryz.prog 294 = true ∧ callable Tryz.prog 293 = true ∧ callable Tryz.prog 331 = true := ⟨by kernel_rfl, by kernel_rfl, by kernel_rfl, by kernel_rfl, by kernel_rfl, by kernel_rfl⟩
@[go_sem] noncomputable def brk19F : PFn := PF [SPp 19] (fun (b : List UInt8) => b.length ≤ 4611686018427387904) (fun (b : List UInt8) => [.int .i64 (if b.all prt8 then 0 else 4)])
theorem brk19_ok : Pure E 211 brk19F := Pure.of_sig (rs := [.tmp 2]) (n := 110) Tryz.func211 rfl rfl rfl (Nat.le_of_ble_eq_true rfl) (by
 intro (b : List UInt8) hds
 refine st0 ?_
 refine rg ΦB19_ok [0] (leafE 19 b) ?_
 refine rB ΦB19_ok [0, 5] (leafE 19 b) fun K' hK => ?_
 repeat' first | (refine lf hK (leafE 19 b) ?_; clear hK K') | with_reducible apply And.intro | refine sA (leafE 19 b) (fun _ => ?_) fun _ => ?_ | refine sAb (leafE 19 b) (fun _ => ?_) fun _ => ?_ | refine sAl (leafE 19 b) (fun g => ?_) fun g => ?_ | exact sd | exact sde (leafE 19 b) | exact sdp (leafE 19 b) | refine stk (leafE 19 b) ?_ | fail
 all_goals
  refine cn ?_ ?_
  ·intro h; try exact absurd h (by decide)
   try (exfalso; (try simp only [Bool.not_eq_eq_eq_not, Bool.not_true, Bool.not_false, decide_eq_false_iff_not, decide_eq_true_eq] at *); first | omega | (have g0 := g rfl; omega) | (simp_all; done))
  intro h; try exact absurd h (by decide)
  try (exfalso; (try simp only [Bool.not_eq_eq_eq_not, Bool.not_true, Bool.not_false, decide_eq_false_iff_not, decide_eq_true_eq] at *); first | omega | (have g0 := g rfl; omega) | (simp_all; done))
  refine rB ΦB19_ok [0, 32] (leafE 19 b) fun K' hK => ?_
  repeat' first | (refine lf hK (leafE 19 b) ?_; clear hK K') | with_reducible apply And.intro | refine sA (leafE 19 b) (fun _ => ?_) fun _ => ?_ | refine sAb (leafE 19 b) (fun _ => ?_) fun _ => ?_ | refine sAl (leafE 19 b) (fun g => ?_) fun g => ?_ | exact sd | exact sde (leafE 19 b) | exact sdp (leafE 19 b) | refine stk (leafE 19 b) ?_ | fail
  all_goals
   refine cn ?_ ?_
   ·intro h; try exact absurd h (by decide)
    try (exfalso; (try simp only [Bool.not_eq_eq_eq_not, Bool.not_true, Bool.not_false, decide_eq_false_iff_not, decide_eq_true_eq] at *); first | omega | (have g0 := g rfl; omega) | (simp_all; done))
   intro h; try exact absurd h (by decide)
   try (exfalso; (try simp only [Bool.not_eq_eq_eq_not, Bool.not_true, Bool.not_false, decide_eq_false_iff_not, decide_eq_true_eq] at *); first | omega | (have g0 := g rfl; omega) | (simp_all; done))
   refine rg ΦB19_ok [0, 60] (leafE 19 b) ?_
   refine cn ?_ ?_
   ·intro h; try exact absurd h (by decide)
    try (exfalso; (try simp only [Bool.not_eq_eq_eq_not, Bool.not_true, Bool.not_false, decide_eq_false_iff_not, decide_eq_true_eq] at *); first | omega | (have g0 := g rfl; omega) | (simp_all; done))
   intro h; try exact absurd h (by decide)
   try (exfalso; (try simp only [Bool.not_eq_eq_eq_not, Bool.not_true, Bool.not_false, decide_eq_false_iff_not, decide_eq_true_eq] at *); first | omega | (have g0 := g rfl; omega) | (simp_all; done))
   refine rB ΦB19_ok [0, 3] (leafE 19 b) fun K' hK => ?_
   repeat' first | (refine lf hK (leafE 19 b) ?_; clear hK K') | with_reducible apply And.intro | refine sA (leafE 19 b) (fun _ => ?_) fun _ => ?_ | refine sAb (leafE 19 b) (fun _ => ?_) fun _ => ?_ | refine sAl (leafE 19 b) (fun g => ?_) fun g => ?_ | exact sd | exact sde (leafE 19 b) | exact sdp (leafE 19 b) | refine stk (leafE 19 b) ?_ | fail
   all_goals
    refine rB ΦB19_ok [0, 3, 4] (leafE 19 b) fun K' hK => ?_
    repeat' first | with_reducible apply And.intro | exact sd | exact sde (leafE 19 b) | exact sdp (leafE 19 b) | refine stk (leafE 19 b) ?_ | fail
    refine ec (rs := [.tmp 2]) (n := 34) Tryz.func252 rfl rfl rfl ?_
    refine rg ΦB19_ok [0] trivial ?_
    refine rg ΦB19_ok [0, 3] trivial ?_
    refine rg ΦB19_ok [3, 4] trivial ?_
    refine rg ΦB19_ok [3, 4, 5] trivial ?_
    refine cn ?_ ?_
    ·intro h; try exact absurd h (by decide)
     try (exfalso; (try simp only [Bool.not_eq_eq_eq_not, Bool.not_true, Bool.not_false, decide_eq_false_iff_not, decide_eq_true_eq] at *); first | omega | (have g0 := g rfl; omega) | (simp_all; done))
    intro h; try exact absurd h (by decide)
    try (exfalso; (try simp only [Bool.not_eq_eq_eq_not, Bool.not_true, Bool.not_false, decide_eq_false_iff_not, decide_eq_true_eq] at *); first | omega | (have g0 := g rfl; omega) | (simp_all; done))
    refine rg ΦB19_ok [3, 4, 7] trivial ?_
    refine cn ?_ ?_
    ·intro h; try exact absurd h (by decide)
     try (exfalso; (try simp only [Bool.not_eq_eq_eq_not, Bool.not_true, Bool.not_false, decide_eq_false_iff_not, decide_eq_true_eq] at *); first | omega | (have g0 := g rfl; omega) | (simp_all; done))
    intro h; try exact absurd h (by decide)
    try (exfalso; (try simp only [Bool.not_eq_eq_eq_not, Bool.not_true, Bool.not_false, decide_eq_false_iff_not, decide_eq_true_eq] at *); first | omega | (have g0 := g rfl; omega) | (simp_all; done))
    refine rgL ΦB19_ok trivial ?_
    refine cn ?_ ?_
    ·intro h; try exact absurd h (by decide)
     try (exfalso; (try simp only [Bool.not_eq_eq_eq_not, Bool.not_true, Bool.not_false, decide_eq_false_iff_not, decide_eq_true_eq] at *); first | omega | (have g0 := g rfl; omega) | (simp_all; done))
    intro h; try exact absurd h (by decide)
    try (exfalso; (try simp only [Bool.not_eq_eq_eq_not, Bool.not_true, Bool.not_false, decide_eq_false_iff_not, decide_eq_true_eq] at *); first | omega | (have g0 := g rfl; omega) | (simp_all; done))
    refine rg ΦB19_ok [3, 4, 10] trivial ?_
    refine cn ?_ ?_
    ·intro h; try exact absurd h (by decide)
     try (exfalso; (try simp only [Bool.not_eq_eq_eq_not, Bool.not_true, Bool.not_false, decide_eq_false_iff_not, decide_eq_true_eq] at *); first | omega | (have g0 := g rfl; omega) | (simp_all; done))
    intro h; try exact absurd h (by decide)
    try (exfalso; (try simp only [Bool.not_eq_eq_eq_not, Bool.not_true, Bool.not_false, decide_eq_false_iff_not, decide_eq_true_eq] at *); first | omega | (have g0 := g rfl; omega) | (simp_all; done))
    refine rg ΦB19_ok [3, 4, 12] trivial ?_
    refine cn ?_ ?_
    ·intro h; try exact absurd h (by decide)
     try (exfalso; (try simp only [Bool.not_eq_eq_eq_not, Bool.not_true, Bool.not_false, decide_eq_false_iff_not, decide_eq_true_eq] at *); first | omega | (have g0 := g rfl; omega) | (simp_all; done))
    intro h; try exact absurd h (by decide)
    try (exfalso; (try simp only [Bool.not_eq_eq_eq_not, Bool.not_true, Bool.not_false, decide_eq_false_iff_not, decide_eq_true_eq] at *); first | omega | (have g0 := g rfl; omega) | (simp_all; done))
    refine rg ΦB19_ok [3, 4, 16] trivial ?_
    refine cn ?_ ?_
    ·intro h; try exact absurd h (by decide)
     try (exfalso; (try simp only [Bool.not_eq_eq_eq_not, Bool.not_true, Bool.not_false, decide_eq_false_iff_not, decide_eq_true_eq] at *); first | omega | (have g0 := g rfl; omega) | (simp_all; done))
    intro h; try exact absurd h (by decide)
    try (exfalso; (try simp only [Bool.not_eq_eq_eq_not, Bool.not_true, Bool.not_false, decide_eq_false_iff_not, decide_eq_true_eq] at *); first | omega | (have g0 := g rfl; omega) | (simp_all; done))
    refine rg ΦB19_ok [3, 4, 18] trivial ?_
    refine cn ?_ ?_
    ·intro h; try exact absurd h (by decide)
     try (exfalso; (try simp only [Bool.not_eq_eq_eq_not, Bool.not_true, Bool.not_false, decide_eq_false_iff_not, decide_eq_true_eq] at *); first | omega | (have g0 := g rfl; omega) | (simp_all; done))
    intro h; try exact absurd h (by decide)
    try (exfalso; (try simp only [Bool.not_eq_eq_eq_not, Bool.not_true, Bool.not_false, decide_eq_false_iff_not, decide_eq_true_eq] at *); first | omega | (have g0 := g rfl; omega) | (simp_all; done))
    refine rg ΦB19_ok [3, 4, 20] trivial ?_
    refine cn ?_ ?_
    ·intro h; try exact absurd h (by decide)
     try (exfalso; (try simp only [Bool.not_eq_eq_eq_not, Bool.not_true, Bool.not_false, decide_eq_false_iff_not, decide_eq_true_eq] at *); first | omega | (have g0 := g rfl; omega) | (simp_all; done))
    intro h; try exact absurd h (by decide)
    try (exfalso; (try simp only [Bool.not_eq_eq_eq_not, Bool.not_true, Bool.not_false, decide_eq_false_iff_not, decide_eq_true_eq] at *); first | omega | (have g0 := g rfl; omega) | (simp_all; done))
    refine rg ΦB19_ok [3, 4, 22] trivial ?_
    refine cn ?_ ?_
    ·intro h; try exact absurd h (by decide)
     try (exfalso; (try simp only [Bool.not_eq_eq_eq_not, Bool.not_true, Bool.not_false, decide_eq_false_iff_not, decide_eq_true_eq] at *); first | omega | (have g0 := g rfl; omega) | (simp_all; done))
     all_goals
      refine rB ΦB19_ok [2] trivial fun K' hK => ?_
      repeat' first | with_reducible apply And.intro | exact sd | exact sde trivial | exact sdp trivial | refine stk trivial ?_ | fail
      refine ec (rs := [.tmp 2]) (n := 4) Tryz.func291 rfl rfl rfl ?_
      refine rg ΦB19_ok [1] trivial ?_
      refine rg ΦB19_ok [2] trivial ?_
      refine nx ?_
      refine rt trivial ?_
      repeat' first | (refine lf hK trivial ?_; clear hK K') | with_reducible apply And.intro | exact sd | exact sde trivial | exact sdp trivial | refine stk trivial ?_ | fail
      all_goals
       refine nx ?_
       refine rt (leafE 19 b) ?_
       repeat' first | (refine lf hK (leafE 19 b) ?_; clear hK K') | with_reducible apply And.intro | exact sd | exact sde (leafE 19 b) | exact sdp (leafE 19 b) | refine stk (leafE 19 b) ?_ | fail
       all_goals
        refine rB ΦB19_ok [0, 3, 4, 83] (leafE 19 b) fun K' hK => ?_
        repeat' first | (refine lf hK (leafE 19 b) ?_; clear hK K') | with_reducible apply And.intro | refine sA (leafE 19 b) (fun _ => ?_) fun _ => ?_ | refine sAb (leafE 19 b) (fun _ => ?_) fun _ => ?_ | refine sAl (leafE 19 b) (fun g => ?_) fun g => ?_ | exact sd | exact sde (leafE 19 b) | exact sdp (leafE 19 b) | refine stk (leafE 19 b) ?_ | fail
        all_goals
         refine cn ?_ ?_
         ·intro h; try exact absurd h (by decide)
          try (exfalso; (try simp only [Bool.not_eq_eq_eq_not, Bool.not_true, Bool.not_false, decide_eq_false_iff_not, decide_eq_true_eq] at *); first | omega | (have g0 := g rfl; omega) | (simp_all; done))
         intro h; try exact absurd h (by decide)
         try (exfalso; (try simp only [Bool.not_eq_eq_eq_not, Bool.not_true, Bool.not_false, decide_eq_false_iff_not, decide_eq_true_eq] at *); first | omega | (have g0 := g rfl; omega) | (simp_all; done))
         refine rB ΦB19_ok [98] (leafE 19 b) fun K' hK => ?_
         repeat' first | with_reducible apply And.intro | exact sd | exact sde (leafE 19 b) | exact sdp (leafE 19 b) | refine stk (leafE 19 b) ?_ | fail
         refine ec (rs := [.tmp 3]) (n := 8) Tryz.func292 rfl rfl rfl ?_
         refine rg ΦB19_ok [0, 1] trivial ?_
         refine rB ΦB19_ok [3] trivial fun K' hK => ?_
         repeat' first | with_reducible apply And.intro | exact sd | exact sde trivial | exact sdp trivial | refine stk trivial ?_ | fail
         refine ec (rs := [.tmp 4]) (n := 9) Tryz.func293 rfl rfl rfl ?_
         refine rg ΦB19_ok [0, 1] trivial ?_
         refine rB ΦB19_ok [4] trivial fun K' hK => ?_
         repeat' first | with_reducible apply And.intro | exact sd | exact sde trivial | exact sdp trivial | refine stk trivial ?_ | fail
         refine ec (rs := [.tmp 4]) (n := 19) Tryz.func331 rfl rfl rfl ?_
         refine rg ΦB19_ok [0, 1] trivial ?_
         refine rg ΦB19_ok [0, 1, 7, 8] trivial ?_
         refine nx ?_
         refine VC.loopS (ι := Nat) [0, 1, 7] (fun i => [(8, .dat (.int .i64 (i : Int)))]) (fun i => []) (fun i => i ≤ b.length ∧ ∀ j, j < i → prt8 (b.getD j 0) = true) (fun i => b.length - i) 0 ⟨Nat.zero_le _, fun j hj => by omega⟩ ?_ ?_
         ·refine Ent.to rfl rfl rfl ?_ ?_
          ·simp -implicitDefEqProofs only [go_sem, Nat.reduceLT, Nat.reduceAdd, Nat.reduceEqDiff, reduceIte, Nat.reduceMul, Nat.reduceSub, reduceCtorEq, Int.reduceNe, Int.reduceEq, ne_eq, Nat.reduceLeDiff, Nat.reduceMod, Nat.reduceDiv]; (try simp only [D.dat.injEq, Vm.Data.int.injEq, true_and, and_true, and_self, eq_self]); (try omega); (try ((repeat' apply And.intro) <;> first | omega | rfl))
          ·apply all_at
           ·(repeat' (first | exact all_nil | (refine all_cons ?_ ?_))) <;> (simp -implicitDefEqProofs only [go_sem, Nat.reduceLT, Nat.reduceAdd, Nat.reduceEqDiff, reduceIte, Nat.reduceMul, Nat.reduceSub, reduceCtorEq, Int.reduceNe, Int.reduceEq, ne_eq, Nat.reduceLeDiff, Nat.reduceMod, Nat.reduceDiv]; (try rfl); skip)
           ·(repeat' (first | exact all_nil | (refine all_cons ?_ ?_))) <;> (simp -implicitDefEqProofs only [go_sem, Nat.reduceLT, Nat.reduceAdd, Nat.reduceEqDiff, reduceIte, Nat.reduceMul, Nat.reduceSub, reduceCtorEq, Int.reduceNe, Int.reduceEq, ne_eq, Nat.reduceLeDiff, Nat.reduceMod, Nat.reduceDiv]; (try rfl); skip)
         intro i hp; (try dsimp only at hp)
         refine st0 ?_
         refine rg ΦB19_ok [0, 1, 7, 8, 9] trivial ?_
         refine cn ?_ ?_
         ·intro h; try exact absurd h (by decide)
          all_goals
           refine rg ΦB19_ok [0, 1, 5, 7, 8] trivial ?_
           refine rB ΦB19_ok [0, 1, 5, 7, 8, 16] trivial fun K' hK => ?_
           repeat' first | with_reducible apply And.intro | exact sd | exact sde trivial | exact sdp trivial | refine stk trivial ?_ | fail
           refine ec (rs := [.tmp 3]) (n := 8) Tryz.func294 rfl rfl rfl ?_
           refine rg ΦB19_ok [0, 1] prtI_eq ?_
           refine rg ΦB19_ok [3] prtI_eq ?_
           refine nx ?_
           refine rt trivial ?_
           repeat' first | (refine lf hK trivial ?_; clear hK K') | with_reducible apply And.intro | exact sd | exact sde trivial | exact sdp trivial | refine stk trivial ?_ | fail
           all_goals
            refine cn ?_ ?_
            ·intro h; try exact absurd h (by decide)
             all_goals
              have hbad := not_of (b := b) (i := i) (by omega) (by simp_all)
              refine rg ΦB19_ok [4] trivial ?_
              refine nx ?_
              refine rt trivial ?_
              repeat' first | (refine lf hK trivial ?_; clear hK K') | with_reducible apply And.intro | exact sd | exact sde trivial | exact sdp trivial | refine stk trivial ?_ | fail
              all_goals
               refine nx ?_
               refine rt trivial ?_
               repeat' first | (refine lf hK trivial ?_; clear hK K') | with_reducible apply And.intro | exact sd | exact sde trivial | exact sdp trivial | refine stk trivial ?_ | fail
               all_goals
                refine nx ?_
                refine rt (leafE 19 b) ?_
                repeat' first | (refine lf hK (leafE 19 b) ?_; clear hK K') | with_reducible apply And.intro | exact sd | exact sde (leafE 19 b) | exact sdp (leafE 19 b) | refine stk (leafE 19 b) ?_ | fail
                all_goals
                 refine cn ?_ ?_
                 ·intro h; try exact absurd h (by decide)
                  try (exfalso; (try simp only [Bool.not_eq_eq_eq_not, Bool.not_true, Bool.not_false, decide_eq_false_iff_not, decide_eq_true_eq] at *); first | omega | (have g0 := g rfl; omega) | (simp_all; done))
                  all_goals
                   have hy : (if b.all prt8 = true then 0 else 4 : Int) = 4 := if_neg hbad
                   refine rg ΦB19_ok [2] (leafE 19 b) ?_
                   first
                   | exact fz hy
                 ·intro h; try exact absurd h (by decide)
                  try (exfalso; (try simp only [Bool.not_eq_eq_eq_not, Bool.not_true, Bool.not_false, decide_eq_false_iff_not, decide_eq_true_eq] at *); first | omega | (have g0 := g rfl; omega) | (simp_all; done))
                  all_goals
                   have hy : (if b.all prt8 = true then 0 else 4 : Int) = 0 := if_pos hgood
                   refine rg ΦB19_ok [2] (leafE 19 b) ?_
                   first
                   | exact fz hy
            ·intro h; try exact absurd h (by decide)
             all_goals
              refine rgL ΦB19_ok trivial ?_
              refine nx ?_
              refine ⟨i + 1, ⟨by omega, fun j hj => by
               rcases Nat.lt_succ_iff_lt_or_eq.1 hj with hj | rfl
               ·exact hp.2 j hj
               ·simp_all⟩, Ent.to rfl rfl rfl ?_ ?_, by omega⟩
              ·simp -implicitDefEqProofs only [go_sem, Nat.reduceLT, Nat.reduceAdd, Nat.reduceEqDiff, reduceIte, Nat.reduceMul, Nat.reduceSub, reduceCtorEq, Int.reduceNe, Int.reduceEq, ne_eq, Nat.reduceLeDiff, Nat.reduceMod, Nat.reduceDiv]; (try simp (disch := omega) only [i64_in, tmodn, tdivn]); (try simp only [D.dat.injEq, Vm.Data.int.injEq, true_and, and_true, and_self, eq_self]); (try omega); (try ((repeat' apply And.intro) <;> first | omega | rfl))
              ·apply all_at
               ·(repeat' (first | exact all_nil | (refine all_cons ?_ ?_))) <;> (simp -implicitDefEqProofs only [go_sem, Nat.reduceLT, Nat.reduceAdd, Nat.reduceEqDiff, reduceIte, Nat.reduceMul, Nat.reduceSub, reduceCtorEq, Int.reduceNe, Int.reduceEq, ne_eq, Nat.reduceLeDiff, Nat.reduceMod, Nat.reduceDiv]; (try rfl); skip)
               ·(repeat' (first | exact all_nil | (refine all_cons ?_ ?_))) <;> (simp -implicitDefEqProofs only [go_sem, Nat.reduceLT, Nat.reduceAdd, Nat.reduceEqDiff, reduceIte, Nat.reduceMul, Nat.reduceSub, reduceCtorEq, Int.reduceNe, Int.reduceEq, ne_eq, Nat.reduceLeDiff, Nat.reduceMod, Nat.reduceDiv]; (try rfl); skip)
         ·intro h; try exact absurd h (by decide)
          all_goals
           have hgood := all_of hp.2 (by omega)
           refine rg ΦB19_ok [4] trivial ?_
           refine nx ?_
           refine rt trivial ?_
           repeat' first | (refine lf hK trivial ?_; clear hK K') | with_reducible apply And.intro | exact sd | exact sde trivial | exact sdp trivial | refine stk trivial ?_ | fail
           all_goals
            refine nx ?_
            refine rt trivial ?_
            repeat' first | (refine lf hK trivial ?_; clear hK K') | with_reducible apply And.intro | exact sd | exact sde trivial | exact sdp trivial | refine stk trivial ?_ | fail
            all_goals
             refine nx ?_
             refine rt (leafE 19 b) ?_
             repeat' first | (refine lf hK (leafE 19 b) ?_; clear hK K') | with_reducible apply And.intro | exact sd | exact sde (leafE 19 b) | exact sdp (leafE 19 b) | refine stk (leafE 19 b) ?_ | fail
             all_goals
              refine cn ?_ ?_
              ·intro h; try exact absurd h (by decide)
               try (exfalso; (try simp only [Bool.not_eq_eq_eq_not, Bool.not_true, Bool.not_false, decide_eq_false_iff_not, decide_eq_true_eq] at *); first | omega | (have g0 := g rfl; omega) | (simp_all; done))
               all_goals
                have hy : (if b.all prt8 = true then 0 else 4 : Int) = 4 := if_neg hbad
                refine rg ΦB19_ok [2] (leafE 19 b) ?_
                first
                | exact fz hy
              ·intro h; try exact absurd h (by decide)
               try (exfalso; (try simp only [Bool.not_eq_eq_eq_not, Bool.not_true, Bool.not_false, decide_eq_false_iff_not, decide_eq_true_eq] at *); first | omega | (have g0 := g rfl; omega) | (simp_all; done))
               all_goals
                have hy : (if b.all prt8 = true then 0 else 4 : Int) = 0 := if_pos hgood
                refine rg ΦB19_ok [2] (leafE 19 b) ?_
                first
                | exact fz hy
    ·intro h; try exact absurd h (by decide)
     try (exfalso; (try simp only [Bool.not_eq_eq_eq_not, Bool.not_true, Bool.not_false, decide_eq_false_iff_not, decide_eq_true_eq] at *); first | omega | (have g0 := g rfl; omega) | (simp_all; done)))
end Go.Proofs.YtpajpkbipagjpaaGreatDoor.Oc
namespace Go.Proofs.YtpajpkbipagjpaaGreatDoor.Oc
open Go Go.RowKit Go.Proofs.YtpajpkbipagjpaaGreatDoor.Vm Go.Proofs.YtpajpkbipagjpaaGreatDoor.Tr Go.IntWalk
set_option maxRecDepth 100000
set_option maxHeartbeats 4000000
@[go_sem] noncomputable def cnt19F : PFn := PF [SNp 19] (fun (b : List UInt8) => True) (fun (b : List UInt8) => [.int .i64 1, .int .i64 1])
theorem cnt19_ok : Pure E 209 cnt19F := Pure.of_sig (rs := [.tmp 2, .tmp 3]) (n := 30) Tryz.func209 rfl rfl rfl (Nat.le_of_ble_eq_true rfl) (by
 intro (b : List UInt8) hds
 refine st0 ?_
 refine rg sound_nil [1] (leafE 19 b) ?_
 refine rg sound_nil [1, 2, 3] (leafE 19 b) ?_
 refine rg sound_nil [2, 3, 9, 10, 11] (leafE 19 b) ?_
 refine nx ?_
 refine VC.loopP (ι := Unit) [2, 3, 10, 11] (fun i => []) (fun _ => []) (fun i => True) (fun i => 0) () (trivial) (et) ?_
 rintro u hp; try dsimp only at hp
 refine st0 ?_
 refine rg sound_nil [2, 3, 9, 10, 11, 12] (leafE 19 b) ?_
 refine cn ?_ ?_
 ·intro h; try exact absurd h (by decide)
  all_goals
   refine rg sound_nil [2, 3, 5, 10, 11] (leafE 19 b) ?_
   refine rg sound_nil [2, 3, 6, 7, 10, 11] (leafE 19 b) ?_
   refine rgL sound_nil (leafE 19 b) ?_
   refine rgL sound_nil (leafE 19 b) ?_
   refine nx ?_
   exact ⟨(), trivial, et, by omega⟩
 ·intro h; try exact absurd h (by decide)
  all_goals
   refine rg sound_nil [2, 3] (leafE 19 b) ?_
   first
   | exact fz trivial)
noncomputable def ΦW19 : Fns := tab [(209, cnt19F), (211, brk19F)]
theorem ΦW19_ok : Sound E ΦW19 := sound_cons (by kernel_rfl) cnt19_ok (sound_cons (by kernel_rfl) brk19_ok (sound_nil))
@[go_sem] theorem ΦW19_r : ΦW19 209 = some cnt19F ∧ ΦW19 211 = some brk19F ∧ ΦW19 210 = none ∧ ΦW19 251 = none := ⟨rfl, rfl, rfl, rfl⟩
@[go_sem] theorem ΦW19_c : callable Tryz.prog 210 = true ∧ callable Tryz.prog 251 = true := ⟨by kernel_rfl, by kernel_rfl⟩
@[go_sem] noncomputable def wrong19F : PFn := PF [SNp 19] (fun (b : List UInt8) => b.length ≤ 4611686018427387904) (fun (b : List UInt8) => [.int .i64 (if b.all prt8 then 0 else 4), .int .i64 (if b.all prt8 then -1 else 0)])
theorem wrong19_ok : Pure E 158 wrong19F := Pure.of_sig (rs := [.cell 2 3, .tmp 3]) (n := 31) Tryz.func158 rfl rfl rfl (Nat.le_of_ble_eq_true rfl) (by
 intro (b : List UInt8) hds
 obtain ⟨R, hR, hRc⟩ : ∃ R : Int, (if b.all prt8 = true then 0 else 4 : Int) = R ∧ (R = 0 ∧ b.all prt8 = true ∨ R = 4 ∧ b.all prt8 = false) := ⟨_, rfl, by cases b.all prt8 <;> simp⟩
 refine st0 ?_
 refine rg ΦW19_ok [1, 2, 7] (leafE 19 b) ?_
 refine rg ΦW19_ok [1, 2, 4, 5, 7] (leafE 19 b) ?_
 refine rg ΦW19_ok [1, 2, 4, 7, 13] (leafE 19 b) ?_
 refine cn ?_ ?_
 ·intro h; try exact absurd h (by decide)
  try (exfalso; (try simp only [Bool.not_eq_eq_eq_not, Bool.not_true, Bool.not_false, decide_eq_false_iff_not, decide_eq_true_eq] at *); first | omega | (have g0 := g rfl; omega) | (simp_all; done))
  all_goals
   refine rg ΦW19_ok [2, 3] (leafE 19 b) ?_
   refine nx ?_
   refine pureK_r (pureS_one (l := 20) (by simp -implicitDefEqProofs only [go_sem, Nat.reduceLT, Nat.reduceAdd, Nat.reduceEqDiff, reduceIte, Nat.reduceMul, Nat.reduceSub, reduceCtorEq, Int.reduceNe, Int.reduceEq, ne_eq, Nat.reduceLeDiff, Nat.reduceMod, Nat.reduceDiv]) ?_)
   first
   | exact fz hy
 ·intro h; try exact absurd h (by decide)
  try (exfalso; (try simp only [Bool.not_eq_eq_eq_not, Bool.not_true, Bool.not_false, decide_eq_false_iff_not, decide_eq_true_eq] at *); first | omega | (have g0 := g rfl; omega) | (simp_all; done))
  all_goals
   refine rg ΦW19_ok [1, 2, 7, 16] (leafE 19 b) ?_
   refine cn ?_ ?_
   ·intro h; try exact absurd h (by decide)
    try (exfalso; (try simp only [Bool.not_eq_eq_eq_not, Bool.not_true, Bool.not_false, decide_eq_false_iff_not, decide_eq_true_eq] at *); first | omega | (have g0 := g rfl; omega) | (simp_all; done))
    all_goals
     refine rg ΦW19_ok [2, 3] (leafE 19 b) ?_
     refine nx ?_
     refine pureK_r (pureS_one (l := 20) (by simp -implicitDefEqProofs only [go_sem, Nat.reduceLT, Nat.reduceAdd, Nat.reduceEqDiff, reduceIte, Nat.reduceMul, Nat.reduceSub, reduceCtorEq, Int.reduceNe, Int.reduceEq, ne_eq, Nat.reduceLeDiff, Nat.reduceMod, Nat.reduceDiv]) ?_)
     first
     | exact fz hy
   ·intro h; try exact absurd h (by decide)
    try (exfalso; (try simp only [Bool.not_eq_eq_eq_not, Bool.not_true, Bool.not_false, decide_eq_false_iff_not, decide_eq_true_eq] at *); first | omega | (have g0 := g rfl; omega) | (simp_all; done))
    all_goals
     refine rg ΦW19_ok [1, 2, 6, 7] (leafE 19 b) ?_
     refine rB ΦW19_ok [2, 6, 7, 19] (leafE 19 b) fun K' hK => ?_
     repeat' first | with_reducible apply And.intro | exact sd | exact sde (leafE 19 b) | exact sdp (leafE 19 b) | refine stk (leafE 19 b) ?_ | fail
     refine ec (rs := [.tmp 2]) (n := 4) Tryz.func210 rfl rfl rfl ?_
     refine rg ΦW19_ok [1] trivial ?_
     refine rg ΦW19_ok [2] trivial ?_
     refine nx ?_
     refine rt (leafE 19 b) ?_
     repeat' first | (refine lf hK (leafE 19 b) ?_; clear hK K') | with_reducible apply And.intro | exact sd | exact sde (leafE 19 b) | exact sdp (leafE 19 b) | refine stk (leafE 19 b) ?_ | fail
     all_goals
      refine nx ?_
      refine re (rs := []) (n := 6) 20 21 Tryz.func250 rfl rfl rfl fun A B hA hB => ?_
      refine rBL ΦW19_ok  (leafE 19 b) fun K' hK => ?_
      repeat' first | with_reducible apply And.intro | exact sd | exact sde (leafE 19 b) | exact sdp (leafE 19 b) | refine stk (leafE 19 b) ?_ | fail
      refine ec (rs := [.tmp 4]) (n := 28) Tryz.func251 rfl rfl rfl ?_
      refine rg ΦW19_ok [0, 1] (leafE 19 b) ?_
      refine rB ΦW19_ok [0, 1, 9] (leafE 19 b) fun K' hK => ?_
      repeat' first | with_reducible apply And.intro | exact sd | exact sde (leafE 19 b) | exact sdp (leafE 19 b) | refine stk (leafE 19 b) ?_ | fail
      refine yd hA ?_
      refine rgL ΦW19_ok (leafE 19 b) ?_
      refine nx ?_
      refine yb hB ?_
      refine rg ΦW19_ok [2, 6] (And.intro hR (leafE 19 b)) ?_
      refine rg ΦW19_ok [2, 6, 24] (leafE 19 b) ?_
      refine cn ?_ ?_
      ·intro h; try exact absurd h (by decide)
       try (exfalso; (try simp only [Bool.not_eq_eq_eq_not, Bool.not_true, Bool.not_false, decide_eq_false_iff_not, decide_eq_true_eq] at *); first | omega | (have g0 := g rfl; omega) | (simp_all; done))
       all_goals
        refine nx ?_
        refine rt (leafE 19 b) ?_
        repeat' first | (refine lf hK (leafE 19 b) ?_; clear hK K') | with_reducible apply And.intro | exact sd | exact sde (leafE 19 b) | exact sdp (leafE 19 b) | refine stk (leafE 19 b) ?_ | fail
        all_goals
         refine cn ?_ ?_
         ·intro h; try exact absurd h (by decide)
          try (exfalso; (try simp only [Bool.not_eq_eq_eq_not, Bool.not_true, Bool.not_false, decide_eq_false_iff_not, decide_eq_true_eq] at *); first | omega | (have g0 := g rfl; omega) | (simp_all; done))
          all_goals
           refine rg ΦW19_ok [4] (leafE 19 b) ?_
           refine nx ?_
           refine rt (leafE 19 b) ?_
           repeat' first | (refine lfL hK (leafE 19 b) ?_; clear hK K') | with_reducible apply And.intro | exact sd | exact sde (leafE 19 b) | exact sdp (leafE 19 b) | refine stk (leafE 19 b) ?_ | fail
           all_goals
            refine nx ?_
            refine rt (leafE 19 b) ?_
            refine yc ?_
            refine rg ΦW19_ok [2, 6, 28] (leafE 19 b) ?_
            refine cn ?_ ?_
            ·intro h; try exact absurd h (by decide)
             try (exfalso; (try simp only [Bool.not_eq_eq_eq_not, Bool.not_true, Bool.not_false, decide_eq_false_iff_not, decide_eq_true_eq] at *); first | omega | (have g0 := g rfl; omega) | (simp_all; done))
             all_goals
              have hv : b.all prt8 = true := by
               rcases hRc with h | h
               ·exact h.2
               ·omega
              have hy := And.intro (if_pos hv : (if b.all prt8 = true then 0 else 4 : Int) = 0) (if_pos hv : (if b.all prt8 = true then -1 else 0 : Int) = -1)
              refine rg ΦW19_ok [2, 3] (leafE 19 b) ?_
              refine nx ?_
              refine pureK_r (pureS_one (l := 20) (by simp -implicitDefEqProofs only [go_sem, Nat.reduceLT, Nat.reduceAdd, Nat.reduceEqDiff, reduceIte, Nat.reduceMul, Nat.reduceSub, reduceCtorEq, Int.reduceNe, Int.reduceEq, ne_eq, Nat.reduceLeDiff, Nat.reduceMod, Nat.reduceDiv]) ?_)
              first
              | exact fz hy
            ·intro h; try exact absurd h (by decide)
             try (exfalso; (try simp only [Bool.not_eq_eq_eq_not, Bool.not_true, Bool.not_false, decide_eq_false_iff_not, decide_eq_true_eq] at *); first | omega | (have g0 := g rfl; omega) | (simp_all; done))
             all_goals
              have hv : ¬ b.all prt8 = true := by
               rcases hRc with h | h
               ·omega
               ·rw [h.2]; decide
              have h4 : R = 4 := by rcases hRc with h | h <;> omega
              have hy := And.intro h4 (And.intro (if_neg hv : (if b.all prt8 = true then 0 else 4 : Int) = 4) (if_neg hv : (if b.all prt8 = true then -1 else 0 : Int) = 0))
              refine dT ΦW19_ok (.alt 0 (.alt 1 (.alt 2 (.alt 3 .stop .done) .done) (.alt 2 (.alt 1 (.alt 3 .stop .done) .done) .done)) (.alt 1 (.alt 0 (.alt 2 (.alt 3 .stop .done) .done) .done) .done)) [2, 3] (leafE 19 b) ?_
              refine nx ?_
              refine pureK_r (pureS_one (l := 20) (by simp -implicitDefEqProofs only [go_sem, Nat.reduceLT, Nat.reduceAdd, Nat.reduceEqDiff, reduceIte, Nat.reduceMul, Nat.reduceSub, reduceCtorEq, Int.reduceNe, Int.reduceEq, ne_eq, Nat.reduceLeDiff, Nat.reduceMod, Nat.reduceDiv]) ?_)
              first
              | exact fz hy
         ·intro h; try exact absurd h (by decide)
          try (exfalso; (try simp only [Bool.not_eq_eq_eq_not, Bool.not_true, Bool.not_false, decide_eq_false_iff_not, decide_eq_true_eq] at *); first | omega | (have g0 := g rfl; omega) | (simp_all; done))
          all_goals
           refine rg ΦW19_ok [0, 1, 14, 15] (leafE 19 b) ?_
           refine nx ?_
           refine VC.loopS (ι := Unit) [0, 1, 14, 15] (fun _ => []) (fun _ => []) (fun _ => True) (fun _ => 0) () trivial ?_ ?_
           ·refine Ent.to rfl rfl rfl ?_ ?_
            ·simp -implicitDefEqProofs only [go_sem, Nat.reduceLT, Nat.reduceAdd, Nat.reduceEqDiff, reduceIte, Nat.reduceMul, Nat.reduceSub, reduceCtorEq, Int.reduceNe, Int.reduceEq, ne_eq, Nat.reduceLeDiff, Nat.reduceMod, Nat.reduceDiv]; (try simp only [D.dat.injEq, Vm.Data.int.injEq, true_and, and_true, and_self, eq_self]); (try omega); (try ((repeat' apply And.intro) <;> first | omega | rfl))
            ·apply all_at
             ·(repeat' (first | exact all_nil | (refine all_cons ?_ ?_))) <;> (simp -implicitDefEqProofs only [go_sem, Nat.reduceLT, Nat.reduceAdd, Nat.reduceEqDiff, reduceIte, Nat.reduceMul, Nat.reduceSub, reduceCtorEq, Int.reduceNe, Int.reduceEq, ne_eq, Nat.reduceLeDiff, Nat.reduceMod, Nat.reduceDiv]; (try rfl); skip)
             ·(repeat' (first | exact all_nil | (refine all_cons ?_ ?_))) <;> (simp -implicitDefEqProofs only [go_sem, Nat.reduceLT, Nat.reduceAdd, Nat.reduceEqDiff, reduceIte, Nat.reduceMul, Nat.reduceSub, reduceCtorEq, Int.reduceNe, Int.reduceEq, ne_eq, Nat.reduceLeDiff, Nat.reduceMod, Nat.reduceDiv]; (try rfl); skip)
           intro i hp; (try dsimp only at hp)
           refine st0 ?_
           refine rg ΦW19_ok [0, 1, 14, 15, 16] (leafE 19 b) ?_
           refine cn ?_ ?_
           ·intro h; try exact absurd h (by decide)
            try (exfalso; (try simp only [Bool.not_eq_eq_eq_not, Bool.not_true, Bool.not_false, decide_eq_false_iff_not, decide_eq_true_eq] at *); first | omega | (have g0 := g rfl; omega) | (simp_all; done))
            all_goals
             refine rg ΦW19_ok [0, 1, 5, 14, 15] (leafE 19 b) ?_
             refine rg ΦW19_ok [0, 1, 14, 15, 26] (leafE 19 b) ?_
             refine cn ?_ ?_
             ·intro h; try exact absurd h (by decide)
              try (exfalso; (try simp only [Bool.not_eq_eq_eq_not, Bool.not_true, Bool.not_false, decide_eq_false_iff_not, decide_eq_true_eq] at *); first | omega | (have g0 := g rfl; omega) | (simp_all; done))
              all_goals
               refine rg ΦW19_ok [4] (leafE 19 b) ?_
               refine nx ?_
               refine rt (leafE 19 b) ?_
               repeat' first | (refine lfL hK (leafE 19 b) ?_; clear hK K') | with_reducible apply And.intro | exact sd | exact sde (leafE 19 b) | exact sdp (leafE 19 b) | refine stk (leafE 19 b) ?_ | fail
               all_goals
                refine nx ?_
                refine rt (leafE 19 b) ?_
                refine yc ?_
                refine rg ΦW19_ok [2, 6, 28] (leafE 19 b) ?_
                refine cn ?_ ?_
                ·intro h; try exact absurd h (by decide)
                 try (exfalso; (try simp only [Bool.not_eq_eq_eq_not, Bool.not_true, Bool.not_false, decide_eq_false_iff_not, decide_eq_true_eq] at *); first | omega | (have g0 := g rfl; omega) | (simp_all; done))
                 all_goals
                  have hv : b.all prt8 = true := by
                   rcases hRc with h | h
                   ·exact h.2
                   ·omega
                  have hy := And.intro (if_pos hv : (if b.all prt8 = true then 0 else 4 : Int) = 0) (if_pos hv : (if b.all prt8 = true then -1 else 0 : Int) = -1)
                  refine rg ΦW19_ok [2, 3] (leafE 19 b) ?_
                  refine nx ?_
                  refine pureK_r (pureS_one (l := 20) (by simp -implicitDefEqProofs only [go_sem, Nat.reduceLT, Nat.reduceAdd, Nat.reduceEqDiff, reduceIte, Nat.reduceMul, Nat.reduceSub, reduceCtorEq, Int.reduceNe, Int.reduceEq, ne_eq, Nat.reduceLeDiff, Nat.reduceMod, Nat.reduceDiv]) ?_)
                  first
                  | exact fz hy
                ·intro h; try exact absurd h (by decide)
                 try (exfalso; (try simp only [Bool.not_eq_eq_eq_not, Bool.not_true, Bool.not_false, decide_eq_false_iff_not, decide_eq_true_eq] at *); first | omega | (have g0 := g rfl; omega) | (simp_all; done))
                 all_goals
                  have hv : ¬ b.all prt8 = true := by
                   rcases hRc with h | h
                   ·omega
                   ·rw [h.2]; decide
                  have h4 : R = 4 := by rcases hRc with h | h <;> omega
                  have hy := And.intro h4 (And.intro (if_neg hv : (if b.all prt8 = true then 0 else 4 : Int) = 4) (if_neg hv : (if b.all prt8 = true then -1 else 0 : Int) = 0))
                  refine dT ΦW19_ok (.alt 0 (.alt 1 (.alt 2 (.alt 3 .stop .done) .done) (.alt 2 (.alt 1 (.alt 3 .stop .done) .done) .done)) (.alt 1 (.alt 0 (.alt 2 (.alt 3 .stop .done) .done) .done) .done)) [2, 3] (leafE 19 b) ?_
                  refine nx ?_
                  refine pureK_r (pureS_one (l := 20) (by simp -implicitDefEqProofs only [go_sem, Nat.reduceLT, Nat.reduceAdd, Nat.reduceEqDiff, reduceIte, Nat.reduceMul, Nat.reduceSub, reduceCtorEq, Int.reduceNe, Int.reduceEq, ne_eq, Nat.reduceLeDiff, Nat.reduceMod, Nat.reduceDiv]) ?_)
                  first
                  | exact fz hy
             ·intro h; try exact absurd h (by decide)
              try (exfalso; (try simp only [Bool.not_eq_eq_eq_not, Bool.not_true, Bool.not_false, decide_eq_false_iff_not, decide_eq_true_eq] at *); first | omega | (have g0 := g rfl; omega) | (simp_all; done))
              all_goals
               refine rgL ΦW19_ok (leafE 19 b) ?_
               exact absurd (by assumption) (by decide)
           ·intro h; try exact absurd h (by decide)
            try (exfalso; (try simp only [Bool.not_eq_eq_eq_not, Bool.not_true, Bool.not_false, decide_eq_false_iff_not, decide_eq_true_eq] at *); first | omega | (have g0 := g rfl; omega) | (simp_all; done))
            all_goals
             refine rg ΦW19_ok [4] (leafE 19 b) ?_
             refine nx ?_
             refine rt (leafE 19 b) ?_
             repeat' first | (refine lfL hK (leafE 19 b) ?_; clear hK K') | with_reducible apply And.intro | exact sd | exact sde (leafE 19 b) | exact sdp (leafE 19 b) | refine stk (leafE 19 b) ?_ | fail
             all_goals
              refine nx ?_
              refine rt (leafE 19 b) ?_
              refine yc ?_
              refine rg ΦW19_ok [2, 6, 28] (leafE 19 b) ?_
              refine cn ?_ ?_
              ·intro h; try exact absurd h (by decide)
               try (exfalso; (try simp only [Bool.not_eq_eq_eq_not, Bool.not_true, Bool.not_false, decide_eq_false_iff_not, decide_eq_true_eq] at *); first | omega | (have g0 := g rfl; omega) | (simp_all; done))
               all_goals
                have hv : b.all prt8 = true := by
                 rcases hRc with h | h
                 ·exact h.2
                 ·omega
                have hy := And.intro (if_pos hv : (if b.all prt8 = true then 0 else 4 : Int) = 0) (if_pos hv : (if b.all prt8 = true then -1 else 0 : Int) = -1)
                refine rg ΦW19_ok [2, 3] (leafE 19 b) ?_
                refine nx ?_
                refine pureK_r (pureS_one (l := 20) (by simp -implicitDefEqProofs only [go_sem, Nat.reduceLT, Nat.reduceAdd, Nat.reduceEqDiff, reduceIte, Nat.reduceMul, Nat.reduceSub, reduceCtorEq, Int.reduceNe, Int.reduceEq, ne_eq, Nat.reduceLeDiff, Nat.reduceMod, Nat.reduceDiv]) ?_)
                first
                | exact fz hy
              ·intro h; try exact absurd h (by decide)
               try (exfalso; (try simp only [Bool.not_eq_eq_eq_not, Bool.not_true, Bool.not_false, decide_eq_false_iff_not, decide_eq_true_eq] at *); first | omega | (have g0 := g rfl; omega) | (simp_all; done))
               all_goals
                have hv : ¬ b.all prt8 = true := by
                 rcases hRc with h | h
                 ·omega
                 ·rw [h.2]; decide
                have h4 : R = 4 := by rcases hRc with h | h <;> omega
                have hy := And.intro h4 (And.intro (if_neg hv : (if b.all prt8 = true then 0 else 4 : Int) = 4) (if_neg hv : (if b.all prt8 = true then -1 else 0 : Int) = 0))
                refine dT ΦW19_ok (.alt 0 (.alt 1 (.alt 2 (.alt 3 .stop .done) .done) (.alt 2 (.alt 1 (.alt 3 .stop .done) .done) .done)) (.alt 1 (.alt 0 (.alt 2 (.alt 3 .stop .done) .done) .done) .done)) [2, 3] (leafE 19 b) ?_
                refine nx ?_
                refine pureK_r (pureS_one (l := 20) (by simp -implicitDefEqProofs only [go_sem, Nat.reduceLT, Nat.reduceAdd, Nat.reduceEqDiff, reduceIte, Nat.reduceMul, Nat.reduceSub, reduceCtorEq, Int.reduceNe, Int.reduceEq, ne_eq, Nat.reduceLeDiff, Nat.reduceMod, Nat.reduceDiv]) ?_)
                first
                | exact fz hy
      ·intro h; try exact absurd h (by decide)
       try (exfalso; (try simp only [Bool.not_eq_eq_eq_not, Bool.not_true, Bool.not_false, decide_eq_false_iff_not, decide_eq_true_eq] at *); first | omega | (have g0 := g rfl; omega) | (simp_all; done))
       all_goals
        refine rgL ΦW19_ok (leafE 19 b) ?_
        refine nx ?_
        refine rt (leafE 19 b) ?_
        repeat' first | (refine lf hK (leafE 19 b) ?_; clear hK K') | with_reducible apply And.intro | exact sd | exact sde (leafE 19 b) | exact sdp (leafE 19 b) | refine stk (leafE 19 b) ?_ | fail
        all_goals
         refine cn ?_ ?_
         ·intro h; try exact absurd h (by decide)
          try (exfalso; (try simp only [Bool.not_eq_eq_eq_not, Bool.not_true, Bool.not_false, decide_eq_false_iff_not, decide_eq_true_eq] at *); first | omega | (have g0 := g rfl; omega) | (simp_all; done))
          all_goals
           refine rg ΦW19_ok [4] (leafE 19 b) ?_
           refine nx ?_
           refine rt (leafE 19 b) ?_
           repeat' first | (refine lfL hK (leafE 19 b) ?_; clear hK K') | with_reducible apply And.intro | exact sd | exact sde (leafE 19 b) | exact sdp (leafE 19 b) | refine stk (leafE 19 b) ?_ | fail
           all_goals
            refine nx ?_
            refine rt (leafE 19 b) ?_
            refine ya ?_
            refine rg ΦW19_ok [2, 6, 28] (leafE 19 b) ?_
            refine cn ?_ ?_
            ·intro h; try exact absurd h (by decide)
             try (exfalso; (try simp only [Bool.not_eq_eq_eq_not, Bool.not_true, Bool.not_false, decide_eq_false_iff_not, decide_eq_true_eq] at *); first | omega | (have g0 := g rfl; omega) | (simp_all; done))
             all_goals
              have hv : b.all prt8 = true := by
               rcases hRc with h | h
               ·exact h.2
               ·omega
              have hy := And.intro (if_pos hv : (if b.all prt8 = true then 0 else 4 : Int) = 0) (if_pos hv : (if b.all prt8 = true then -1 else 0 : Int) = -1)
              refine rg ΦW19_ok [2, 3] (leafE 19 b) ?_
              refine nx ?_
              refine pureK_r (pureS_one (l := 20) (by simp -implicitDefEqProofs only [go_sem, Nat.reduceLT, Nat.reduceAdd, Nat.reduceEqDiff, reduceIte, Nat.reduceMul, Nat.reduceSub, reduceCtorEq, Int.reduceNe, Int.reduceEq, ne_eq, Nat.reduceLeDiff, Nat.reduceMod, Nat.reduceDiv]) ?_)
              first
              | exact fz hy
            ·intro h; try exact absurd h (by decide)
             try (exfalso; (try simp only [Bool.not_eq_eq_eq_not, Bool.not_true, Bool.not_false, decide_eq_false_iff_not, decide_eq_true_eq] at *); first | omega | (have g0 := g rfl; omega) | (simp_all; done))
             all_goals
              have hv : ¬ b.all prt8 = true := by
               rcases hRc with h | h
               ·omega
               ·rw [h.2]; decide
              have h4 : R = 4 := by rcases hRc with h | h <;> omega
              have hy := And.intro h4 (And.intro (if_neg hv : (if b.all prt8 = true then 0 else 4 : Int) = 4) (if_neg hv : (if b.all prt8 = true then -1 else 0 : Int) = 0))
              refine dT ΦW19_ok (.alt 0 (.alt 1 (.alt 2 (.alt 3 .stop .done) .done) (.alt 2 (.alt 1 (.alt 3 .stop .done) .done) .done)) (.alt 1 (.alt 0 (.alt 2 (.alt 3 .stop .done) .done) .done) .done)) [2, 3] (leafE 19 b) ?_
              refine nx ?_
              refine pureK_r (pureS_one (l := 20) (by simp -implicitDefEqProofs only [go_sem, Nat.reduceLT, Nat.reduceAdd, Nat.reduceEqDiff, reduceIte, Nat.reduceMul, Nat.reduceSub, reduceCtorEq, Int.reduceNe, Int.reduceEq, ne_eq, Nat.reduceLeDiff, Nat.reduceMod, Nat.reduceDiv]) ?_)
              first
              | exact fz hy
         ·intro h; try exact absurd h (by decide)
          try (exfalso; (try simp only [Bool.not_eq_eq_eq_not, Bool.not_true, Bool.not_false, decide_eq_false_iff_not, decide_eq_true_eq] at *); first | omega | (have g0 := g rfl; omega) | (simp_all; done))
          all_goals
           refine rg ΦW19_ok [0, 1, 14, 15] (leafE 19 b) ?_
           refine nx ?_
           refine VC.loopS (ι := Unit) [0, 1, 14, 15] (fun _ => []) (fun _ => []) (fun _ => True) (fun _ => 0) () trivial ?_ ?_
           ·refine Ent.to rfl rfl rfl ?_ ?_
            ·simp -implicitDefEqProofs only [go_sem, Nat.reduceLT, Nat.reduceAdd, Nat.reduceEqDiff, reduceIte, Nat.reduceMul, Nat.reduceSub, reduceCtorEq, Int.reduceNe, Int.reduceEq, ne_eq, Nat.reduceLeDiff, Nat.reduceMod, Nat.reduceDiv]; (try simp only [D.dat.injEq, Vm.Data.int.injEq, true_and, and_true, and_self, eq_self]); (try omega); (try ((repeat' apply And.intro) <;> first | omega | rfl))
            ·apply all_at
             ·(repeat' (first | exact all_nil | (refine all_cons ?_ ?_))) <;> (simp -implicitDefEqProofs only [go_sem, Nat.reduceLT, Nat.reduceAdd, Nat.reduceEqDiff, reduceIte, Nat.reduceMul, Nat.reduceSub, reduceCtorEq, Int.reduceNe, Int.reduceEq, ne_eq, Nat.reduceLeDiff, Nat.reduceMod, Nat.reduceDiv]; (try rfl); skip)
             ·(repeat' (first | exact all_nil | (refine all_cons ?_ ?_))) <;> (simp -implicitDefEqProofs only [go_sem, Nat.reduceLT, Nat.reduceAdd, Nat.reduceEqDiff, reduceIte, Nat.reduceMul, Nat.reduceSub, reduceCtorEq, Int.reduceNe, Int.reduceEq, ne_eq, Nat.reduceLeDiff, Nat.reduceMod, Nat.reduceDiv]; (try rfl); skip)
           intro i hp; (try dsimp only at hp)
           refine st0 ?_
           refine rg ΦW19_ok [0, 1, 14, 15, 16] (leafE 19 b) ?_
           refine cn ?_ ?_
           ·intro h; try exact absurd h (by decide)
            try (exfalso; (try simp only [Bool.not_eq_eq_eq_not, Bool.not_true, Bool.not_false, decide_eq_false_iff_not, decide_eq_true_eq] at *); first | omega | (have g0 := g rfl; omega) | (simp_all; done))
            all_goals
             refine rg ΦW19_ok [0, 1, 5, 14, 15] (leafE 19 b) ?_
             refine rg ΦW19_ok [0, 1, 14, 15, 26] (leafE 19 b) ?_
             refine cn ?_ ?_
             ·intro h; try exact absurd h (by decide)
              try (exfalso; (try simp only [Bool.not_eq_eq_eq_not, Bool.not_true, Bool.not_false, decide_eq_false_iff_not, decide_eq_true_eq] at *); first | omega | (have g0 := g rfl; omega) | (simp_all; done))
              all_goals
               refine rg ΦW19_ok [4] (leafE 19 b) ?_
               refine nx ?_
               refine rt (leafE 19 b) ?_
               repeat' first | (refine lfL hK (leafE 19 b) ?_; clear hK K') | with_reducible apply And.intro | exact sd | exact sde (leafE 19 b) | exact sdp (leafE 19 b) | refine stk (leafE 19 b) ?_ | fail
               all_goals
                refine nx ?_
                refine rt (leafE 19 b) ?_
                refine ya ?_
                refine rg ΦW19_ok [2, 6, 28] (leafE 19 b) ?_
                refine cn ?_ ?_
                ·intro h; try exact absurd h (by decide)
                 try (exfalso; (try simp only [Bool.not_eq_eq_eq_not, Bool.not_true, Bool.not_false, decide_eq_false_iff_not, decide_eq_true_eq] at *); first | omega | (have g0 := g rfl; omega) | (simp_all; done))
                 all_goals
                  have hv : b.all prt8 = true := by
                   rcases hRc with h | h
                   ·exact h.2
                   ·omega
                  have hy := And.intro (if_pos hv : (if b.all prt8 = true then 0 else 4 : Int) = 0) (if_pos hv : (if b.all prt8 = true then -1 else 0 : Int) = -1)
                  refine rg ΦW19_ok [2, 3] (leafE 19 b) ?_
                  refine nx ?_
                  refine pureK_r (pureS_one (l := 20) (by simp -implicitDefEqProofs only [go_sem, Nat.reduceLT, Nat.reduceAdd, Nat.reduceEqDiff, reduceIte, Nat.reduceMul, Nat.reduceSub, reduceCtorEq, Int.reduceNe, Int.reduceEq, ne_eq, Nat.reduceLeDiff, Nat.reduceMod, Nat.reduceDiv]) ?_)
                  first
                  | exact fz hy
                ·intro h; try exact absurd h (by decide)
                 try (exfalso; (try simp only [Bool.not_eq_eq_eq_not, Bool.not_true, Bool.not_false, decide_eq_false_iff_not, decide_eq_true_eq] at *); first | omega | (have g0 := g rfl; omega) | (simp_all; done))
                 all_goals
                  have hv : ¬ b.all prt8 = true := by
                   rcases hRc with h | h
                   ·omega
                   ·rw [h.2]; decide
                  have h4 : R = 4 := by rcases hRc with h | h <;> omega
                  have hy := And.intro h4 (And.intro (if_neg hv : (if b.all prt8 = true then 0 else 4 : Int) = 4) (if_neg hv : (if b.all prt8 = true then -1 else 0 : Int) = 0))
                  refine dT ΦW19_ok (.alt 0 (.alt 1 (.alt 2 (.alt 3 .stop .done) .done) (.alt 2 (.alt 1 (.alt 3 .stop .done) .done) .done)) (.alt 1 (.alt 0 (.alt 2 (.alt 3 .stop .done) .done) .done) .done)) [2, 3] (leafE 19 b) ?_
                  refine nx ?_
                  refine pureK_r (pureS_one (l := 20) (by simp -implicitDefEqProofs only [go_sem, Nat.reduceLT, Nat.reduceAdd, Nat.reduceEqDiff, reduceIte, Nat.reduceMul, Nat.reduceSub, reduceCtorEq, Int.reduceNe, Int.reduceEq, ne_eq, Nat.reduceLeDiff, Nat.reduceMod, Nat.reduceDiv]) ?_)
                  first
                  | exact fz hy
             ·intro h; try exact absurd h (by decide)
              try (exfalso; (try simp only [Bool.not_eq_eq_eq_not, Bool.not_true, Bool.not_false, decide_eq_false_iff_not, decide_eq_true_eq] at *); first | omega | (have g0 := g rfl; omega) | (simp_all; done))
              all_goals
               refine rgL ΦW19_ok (leafE 19 b) ?_
               exact absurd (by assumption) (by decide)
           ·intro h; try exact absurd h (by decide)
            try (exfalso; (try simp only [Bool.not_eq_eq_eq_not, Bool.not_true, Bool.not_false, decide_eq_false_iff_not, decide_eq_true_eq] at *); first | omega | (have g0 := g rfl; omega) | (simp_all; done))
            all_goals
             refine rg ΦW19_ok [4] (leafE 19 b) ?_
             refine nx ?_
             refine rt (leafE 19 b) ?_
             repeat' first | (refine lfL hK (leafE 19 b) ?_; clear hK K') | with_reducible apply And.intro | exact sd | exact sde (leafE 19 b) | exact sdp (leafE 19 b) | refine stk (leafE 19 b) ?_ | fail
             all_goals
              refine nx ?_
              refine rt (leafE 19 b) ?_
              refine ya ?_
              refine rg ΦW19_ok [2, 6, 28] (leafE 19 b) ?_
              refine cn ?_ ?_
              ·intro h; try exact absurd h (by decide)
               try (exfalso; (try simp only [Bool.not_eq_eq_eq_not, Bool.not_true, Bool.not_false, decide_eq_false_iff_not, decide_eq_true_eq] at *); first | omega | (have g0 := g rfl; omega) | (simp_all; done))
               all_goals
                have hv : b.all prt8 = true := by
                 rcases hRc with h | h
                 ·exact h.2
                 ·omega
                have hy := And.intro (if_pos hv : (if b.all prt8 = true then 0 else 4 : Int) = 0) (if_pos hv : (if b.all prt8 = true then -1 else 0 : Int) = -1)
                refine rg ΦW19_ok [2, 3] (leafE 19 b) ?_
                refine nx ?_
                refine pureK_r (pureS_one (l := 20) (by simp -implicitDefEqProofs only [go_sem, Nat.reduceLT, Nat.reduceAdd, Nat.reduceEqDiff, reduceIte, Nat.reduceMul, Nat.reduceSub, reduceCtorEq, Int.reduceNe, Int.reduceEq, ne_eq, Nat.reduceLeDiff, Nat.reduceMod, Nat.reduceDiv]) ?_)
                first
                | exact fz hy
              ·intro h; try exact absurd h (by decide)
               try (exfalso; (try simp only [Bool.not_eq_eq_eq_not, Bool.not_true, Bool.not_false, decide_eq_false_iff_not, decide_eq_true_eq] at *); first | omega | (have g0 := g rfl; omega) | (simp_all; done))
               all_goals
                have hv : ¬ b.all prt8 = true := by
                 rcases hRc with h | h
                 ·omega
                 ·rw [h.2]; decide
                have h4 : R = 4 := by rcases hRc with h | h <;> omega
                have hy := And.intro h4 (And.intro (if_neg hv : (if b.all prt8 = true then 0 else 4 : Int) = 4) (if_neg hv : (if b.all prt8 = true then -1 else 0 : Int) = 0))
                refine dT ΦW19_ok (.alt 0 (.alt 1 (.alt 2 (.alt 3 .stop .done) .done) (.alt 2 (.alt 1 (.alt 3 .stop .done) .done) .done)) (.alt 1 (.alt 0 (.alt 2 (.alt 3 .stop .done) .done) .done) .done)) [2, 3] (leafE 19 b) ?_
                refine nx ?_
                refine pureK_r (pureS_one (l := 20) (by simp -implicitDefEqProofs only [go_sem, Nat.reduceLT, Nat.reduceAdd, Nat.reduceEqDiff, reduceIte, Nat.reduceMul, Nat.reduceSub, reduceCtorEq, Int.reduceNe, Int.reduceEq, ne_eq, Nat.reduceLeDiff, Nat.reduceMod, Nat.reduceDiv]) ?_)
                first
                | exact fz hy)
noncomputable def ΦK19 : Fns := tab [(158, wrong19F)]
theorem ΦK19_ok : Sound E ΦK19 := sound_cons (by kernel_rfl) wrong19_ok (sound_nil)
@[go_sem] theorem ΦK19_r : ΦK19 158 = some wrong19F := rfl
@[go_sem] noncomputable def check19F : PFn := PF [SNp 19] (fun (b : List UInt8) => b.length ≤ 4611686018427387904) (fun (b : List UInt8) => [.int .i64 (if b.all prt8 then 0 else 110)])
theorem check19_ok : Pure E 116 check19F := Pure.of_sig (rs := [.tmp 2]) (n := 12) Tryz.func116 rfl rfl rfl (Nat.le_of_ble_eq_true rfl) (by
 intro (b : List UInt8) hds
 refine st0 ?_
 refine rg ΦK19_ok [1] (leafE 19 b) ?_
 refine rg ΦK19_ok [3] (leafE 19 b) ?_
 refine rg ΦK19_ok [11] (leafE 19 b) ?_
 refine cn ?_ ?_
 ·intro h; try exact absurd h (by decide)
  all_goals
   have hy : (if b.all prt8 = true then 0 else 110 : Int) = 110 := if_neg (by intro hv; rw [if_pos hv] at *; simp_all)
   refine rg ΦK19_ok [2] (leafE 19 b) ?_
   first
   | exact fz hy
 ·intro h; try exact absurd h (by decide)
  all_goals
   have hy : (if b.all prt8 = true then 0 else 110 : Int) = 0 := if_pos (by cases hv : b.all prt8 <;> simp_all)
   refine rg ΦK19_ok [2] (leafE 19 b) ?_
   first
   | exact fz hy)
end Go.Proofs.YtpajpkbipagjpaaGreatDoor.Oc
namespace Go.Proofs.YtpajpkbipagjpaaGreatDoor.Oc
open Go Go.RowKit Go.Proofs.YtpajpkbipagjpaaGreatDoor.Vm Go.Proofs.YtpajpkbipagjpaaGreatDoor.Tr Go.IntWalk
set_option maxRecDepth 100000
set_option maxHeartbeats 4000000
@[go_sem] noncomputable def cnt12F : PFn := PF [SNp 12] (fun (b : List UInt8) => True) (fun (b : List UInt8) => [.int .i64 1, .int .i64 1])
theorem cnt12_ok : Pure E 209 cnt12F := Pure.of_sig (rs := [.tmp 2, .tmp 3]) (n := 30) Tryz.func209 rfl rfl rfl (Nat.le_of_ble_eq_true rfl) (by
 intro (b : List UInt8) hds
 refine st0 ?_
 refine rg sound_nil [1] (leafE 12 b) ?_
 refine rg sound_nil [1, 2, 3] (leafE 12 b) ?_
 refine rg sound_nil [2, 3, 9, 10, 11] (leafE 12 b) ?_
 refine nx ?_
 refine VC.loopP (ι := Unit) [2, 3, 10, 11] (fun i => []) (fun _ => []) (fun i => True) (fun i => 0) () (trivial) (et) ?_
 rintro u hp; try dsimp only at hp
 refine st0 ?_
 refine rg sound_nil [2, 3, 9, 10, 11, 12] (leafE 12 b) ?_
 refine cn ?_ ?_
 ·intro h; try exact absurd h (by decide)
  all_goals
   refine rg sound_nil [2, 3, 5, 10, 11] (leafE 12 b) ?_
   refine rg sound_nil [2, 3, 6, 7, 10, 11] (leafE 12 b) ?_
   refine rgL sound_nil (leafE 12 b) ?_
   refine rgL sound_nil (leafE 12 b) ?_
   refine nx ?_
   exact ⟨(), trivial, et, by omega⟩
 ·intro h; try exact absurd h (by decide)
  all_goals
   refine rg sound_nil [2, 3] (leafE 12 b) ?_
   first
   | exact fz trivial)
noncomputable def ΦW12 : Fns := tab [(209, cnt12F), (211, brk12F)]
theorem ΦW12_ok : Sound E ΦW12 := sound_cons (by kernel_rfl) cnt12_ok (sound_cons (by kernel_rfl) brk12_ok (sound_nil))
@[go_sem] theorem ΦW12_r : ΦW12 209 = some cnt12F ∧ ΦW12 211 = some brk12F ∧ ΦW12 210 = none ∧ ΦW12 251 = none := ⟨rfl, rfl, rfl, rfl⟩
@[go_sem] theorem ΦW12_c : callable Tryz.prog 210 = true ∧ callable Tryz.prog 251 = true := ⟨by kernel_rfl, by kernel_rfl⟩
@[go_sem] noncomputable def wrong12F : PFn := PF [SNp 12] (fun (b : List UInt8) => b.length ≤ 4611686018427387904) (fun (b : List UInt8) => [.int .i64 (if validB b then 0 else 4), .int .i64 (if validB b then -1 else 0)])
theorem wrong12_ok : Pure E 158 wrong12F := Pure.of_sig (rs := [.cell 2 3, .tmp 3]) (n := 31) Tryz.func158 rfl rfl rfl (Nat.le_of_ble_eq_true rfl) (by
 intro (b : List UInt8) hds
 obtain ⟨R, hR, hRc⟩ : ∃ R : Int, (if validB b = true then 0 else 4 : Int) = R ∧ (R = 0 ∧ validB b = true ∨ R = 4 ∧ validB b = false) := ⟨_, rfl, by cases validB b <;> simp⟩
 refine st0 ?_
 refine rg ΦW12_ok [1, 2, 7] (leafE 12 b) ?_
 refine rg ΦW12_ok [1, 2, 4, 5, 7] (leafE 12 b) ?_
 refine rg ΦW12_ok [1, 2, 4, 7, 13] (leafE 12 b) ?_
 refine cn ?_ ?_
 ·intro h; try exact absurd h (by decide)
  try (exfalso; (try simp only [Bool.not_eq_eq_eq_not, Bool.not_true, Bool.not_false, decide_eq_false_iff_not, decide_eq_true_eq] at *); first | omega | (have g0 := g rfl; omega) | (simp_all; done))
  all_goals
   refine rg ΦW12_ok [2, 3] (leafE 12 b) ?_
   refine nx ?_
   refine pureK_r (pureS_one (l := 20) (by simp -implicitDefEqProofs only [go_sem, Nat.reduceLT, Nat.reduceAdd, Nat.reduceEqDiff, reduceIte, Nat.reduceMul, Nat.reduceSub, reduceCtorEq, Int.reduceNe, Int.reduceEq, ne_eq, Nat.reduceLeDiff, Nat.reduceMod, Nat.reduceDiv]) ?_)
   first
   | exact fz hy
 ·intro h; try exact absurd h (by decide)
  try (exfalso; (try simp only [Bool.not_eq_eq_eq_not, Bool.not_true, Bool.not_false, decide_eq_false_iff_not, decide_eq_true_eq] at *); first | omega | (have g0 := g rfl; omega) | (simp_all; done))
  all_goals
   refine rg ΦW12_ok [1, 2, 7, 16] (leafE 12 b) ?_
   refine cn ?_ ?_
   ·intro h; try exact absurd h (by decide)
    try (exfalso; (try simp only [Bool.not_eq_eq_eq_not, Bool.not_true, Bool.not_false, decide_eq_false_iff_not, decide_eq_true_eq] at *); first | omega | (have g0 := g rfl; omega) | (simp_all; done))
    all_goals
     refine rg ΦW12_ok [2, 3] (leafE 12 b) ?_
     refine nx ?_
     refine pureK_r (pureS_one (l := 20) (by simp -implicitDefEqProofs only [go_sem, Nat.reduceLT, Nat.reduceAdd, Nat.reduceEqDiff, reduceIte, Nat.reduceMul, Nat.reduceSub, reduceCtorEq, Int.reduceNe, Int.reduceEq, ne_eq, Nat.reduceLeDiff, Nat.reduceMod, Nat.reduceDiv]) ?_)
     first
     | exact fz hy
   ·intro h; try exact absurd h (by decide)
    try (exfalso; (try simp only [Bool.not_eq_eq_eq_not, Bool.not_true, Bool.not_false, decide_eq_false_iff_not, decide_eq_true_eq] at *); first | omega | (have g0 := g rfl; omega) | (simp_all; done))
    all_goals
     refine rg ΦW12_ok [1, 2, 6, 7] (leafE 12 b) ?_
     refine rB ΦW12_ok [2, 6, 7, 19] (leafE 12 b) fun K' hK => ?_
     repeat' first | with_reducible apply And.intro | exact sd | exact sde (leafE 12 b) | exact sdp (leafE 12 b) | refine stk (leafE 12 b) ?_ | fail
     refine ec (rs := [.tmp 2]) (n := 4) Tryz.func210 rfl rfl rfl ?_
     refine rg ΦW12_ok [1] trivial ?_
     refine rg ΦW12_ok [2] trivial ?_
     refine nx ?_
     refine rt (leafE 12 b) ?_
     repeat' first | (refine lf hK (leafE 12 b) ?_; clear hK K') | with_reducible apply And.intro | exact sd | exact sde (leafE 12 b) | exact sdp (leafE 12 b) | refine stk (leafE 12 b) ?_ | fail
     all_goals
      refine nx ?_
      refine re (rs := []) (n := 6) 20 21 Tryz.func250 rfl rfl rfl fun A B hA hB => ?_
      refine rBL ΦW12_ok  (leafE 12 b) fun K' hK => ?_
      repeat' first | with_reducible apply And.intro | exact sd | exact sde (leafE 12 b) | exact sdp (leafE 12 b) | refine stk (leafE 12 b) ?_ | fail
      refine ec (rs := [.tmp 4]) (n := 28) Tryz.func251 rfl rfl rfl ?_
      refine rg ΦW12_ok [0, 1] (leafE 12 b) ?_
      refine rB ΦW12_ok [0, 1, 9] (leafE 12 b) fun K' hK => ?_
      repeat' first | with_reducible apply And.intro | exact sd | exact sde (leafE 12 b) | exact sdp (leafE 12 b) | refine stk (leafE 12 b) ?_ | fail
      refine yd hA ?_
      refine rgL ΦW12_ok (leafE 12 b) ?_
      refine nx ?_
      refine yb hB ?_
      refine rg ΦW12_ok [2, 6] (And.intro hR (leafE 12 b)) ?_
      refine rg ΦW12_ok [2, 6, 24] (leafE 12 b) ?_
      refine cn ?_ ?_
      ·intro h; try exact absurd h (by decide)
       try (exfalso; (try simp only [Bool.not_eq_eq_eq_not, Bool.not_true, Bool.not_false, decide_eq_false_iff_not, decide_eq_true_eq] at *); first | omega | (have g0 := g rfl; omega) | (simp_all; done))
       all_goals
        refine nx ?_
        refine rt (leafE 12 b) ?_
        repeat' first | (refine lf hK (leafE 12 b) ?_; clear hK K') | with_reducible apply And.intro | exact sd | exact sde (leafE 12 b) | exact sdp (leafE 12 b) | refine stk (leafE 12 b) ?_ | fail
        all_goals
         refine cn ?_ ?_
         ·intro h; try exact absurd h (by decide)
          try (exfalso; (try simp only [Bool.not_eq_eq_eq_not, Bool.not_true, Bool.not_false, decide_eq_false_iff_not, decide_eq_true_eq] at *); first | omega | (have g0 := g rfl; omega) | (simp_all; done))
          all_goals
           refine rg ΦW12_ok [4] (leafE 12 b) ?_
           refine nx ?_
           refine rt (leafE 12 b) ?_
           repeat' first | (refine lfL hK (leafE 12 b) ?_; clear hK K') | with_reducible apply And.intro | exact sd | exact sde (leafE 12 b) | exact sdp (leafE 12 b) | refine stk (leafE 12 b) ?_ | fail
           all_goals
            refine nx ?_
            refine rt (leafE 12 b) ?_
            refine yc ?_
            refine rg ΦW12_ok [2, 6, 28] (leafE 12 b) ?_
            refine cn ?_ ?_
            ·intro h; try exact absurd h (by decide)
             try (exfalso; (try simp only [Bool.not_eq_eq_eq_not, Bool.not_true, Bool.not_false, decide_eq_false_iff_not, decide_eq_true_eq] at *); first | omega | (have g0 := g rfl; omega) | (simp_all; done))
             all_goals
              have hv : validB b = true := by
               rcases hRc with h | h
               ·exact h.2
               ·omega
              have hy := And.intro (if_pos hv : (if validB b = true then 0 else 4 : Int) = 0) (if_pos hv : (if validB b = true then -1 else 0 : Int) = -1)
              refine rg ΦW12_ok [2, 3] (leafE 12 b) ?_
              refine nx ?_
              refine pureK_r (pureS_one (l := 20) (by simp -implicitDefEqProofs only [go_sem, Nat.reduceLT, Nat.reduceAdd, Nat.reduceEqDiff, reduceIte, Nat.reduceMul, Nat.reduceSub, reduceCtorEq, Int.reduceNe, Int.reduceEq, ne_eq, Nat.reduceLeDiff, Nat.reduceMod, Nat.reduceDiv]) ?_)
              first
              | exact fz hy
            ·intro h; try exact absurd h (by decide)
             try (exfalso; (try simp only [Bool.not_eq_eq_eq_not, Bool.not_true, Bool.not_false, decide_eq_false_iff_not, decide_eq_true_eq] at *); first | omega | (have g0 := g rfl; omega) | (simp_all; done))
             all_goals
              have hv : ¬ validB b = true := by
               rcases hRc with h | h
               ·omega
               ·rw [h.2]; decide
              have h4 : R = 4 := by rcases hRc with h | h <;> omega
              have hy := And.intro h4 (And.intro (if_neg hv : (if validB b = true then 0 else 4 : Int) = 4) (if_neg hv : (if validB b = true then -1 else 0 : Int) = 0))
              refine dT ΦW12_ok (.alt 0 (.alt 1 (.alt 2 (.alt 3 .stop .done) .done) (.alt 2 (.alt 1 (.alt 3 .stop .done) .done) .done)) (.alt 1 (.alt 0 (.alt 2 (.alt 3 .stop .done) .done) .done) .done)) [2, 3] (leafE 12 b) ?_
              refine nx ?_
              refine pureK_r (pureS_one (l := 20) (by simp -implicitDefEqProofs only [go_sem, Nat.reduceLT, Nat.reduceAdd, Nat.reduceEqDiff, reduceIte, Nat.reduceMul, Nat.reduceSub, reduceCtorEq, Int.reduceNe, Int.reduceEq, ne_eq, Nat.reduceLeDiff, Nat.reduceMod, Nat.reduceDiv]) ?_)
              first
              | exact fz hy
         ·intro h; try exact absurd h (by decide)
          try (exfalso; (try simp only [Bool.not_eq_eq_eq_not, Bool.not_true, Bool.not_false, decide_eq_false_iff_not, decide_eq_true_eq] at *); first | omega | (have g0 := g rfl; omega) | (simp_all; done))
          all_goals
           refine rg ΦW12_ok [0, 1, 14, 15] (leafE 12 b) ?_
           refine nx ?_
           refine VC.loopS (ι := Unit) [0, 1, 14, 15] (fun _ => []) (fun _ => []) (fun _ => True) (fun _ => 0) () trivial ?_ ?_
           ·refine Ent.to rfl rfl rfl ?_ ?_
            ·simp -implicitDefEqProofs only [go_sem, Nat.reduceLT, Nat.reduceAdd, Nat.reduceEqDiff, reduceIte, Nat.reduceMul, Nat.reduceSub, reduceCtorEq, Int.reduceNe, Int.reduceEq, ne_eq, Nat.reduceLeDiff, Nat.reduceMod, Nat.reduceDiv]; (try simp only [D.dat.injEq, Vm.Data.int.injEq, true_and, and_true, and_self, eq_self]); (try omega); (try ((repeat' apply And.intro) <;> first | omega | rfl))
            ·apply all_at
             ·(repeat' (first | exact all_nil | (refine all_cons ?_ ?_))) <;> (simp -implicitDefEqProofs only [go_sem, Nat.reduceLT, Nat.reduceAdd, Nat.reduceEqDiff, reduceIte, Nat.reduceMul, Nat.reduceSub, reduceCtorEq, Int.reduceNe, Int.reduceEq, ne_eq, Nat.reduceLeDiff, Nat.reduceMod, Nat.reduceDiv]; (try rfl); skip)
             ·(repeat' (first | exact all_nil | (refine all_cons ?_ ?_))) <;> (simp -implicitDefEqProofs only [go_sem, Nat.reduceLT, Nat.reduceAdd, Nat.reduceEqDiff, reduceIte, Nat.reduceMul, Nat.reduceSub, reduceCtorEq, Int.reduceNe, Int.reduceEq, ne_eq, Nat.reduceLeDiff, Nat.reduceMod, Nat.reduceDiv]; (try rfl); skip)
           intro i hp; (try dsimp only at hp)
           refine st0 ?_
           refine rg ΦW12_ok [0, 1, 14, 15, 16] (leafE 12 b) ?_
           refine cn ?_ ?_
           ·intro h; try exact absurd h (by decide)
            try (exfalso; (try simp only [Bool.not_eq_eq_eq_not, Bool.not_true, Bool.not_false, decide_eq_false_iff_not, decide_eq_true_eq] at *); first | omega | (have g0 := g rfl; omega) | (simp_all; done))
            all_goals
             refine rg ΦW12_ok [0, 1, 5, 14, 15] (leafE 12 b) ?_
             refine rg ΦW12_ok [0, 1, 14, 15, 26] (leafE 12 b) ?_
             refine cn ?_ ?_
             ·intro h; try exact absurd h (by decide)
              try (exfalso; (try simp only [Bool.not_eq_eq_eq_not, Bool.not_true, Bool.not_false, decide_eq_false_iff_not, decide_eq_true_eq] at *); first | omega | (have g0 := g rfl; omega) | (simp_all; done))
              all_goals
               refine rg ΦW12_ok [4] (leafE 12 b) ?_
               refine nx ?_
               refine rt (leafE 12 b) ?_
               repeat' first | (refine lfL hK (leafE 12 b) ?_; clear hK K') | with_reducible apply And.intro | exact sd | exact sde (leafE 12 b) | exact sdp (leafE 12 b) | refine stk (leafE 12 b) ?_ | fail
               all_goals
                refine nx ?_
                refine rt (leafE 12 b) ?_
                refine yc ?_
                refine rg ΦW12_ok [2, 6, 28] (leafE 12 b) ?_
                refine cn ?_ ?_
                ·intro h; try exact absurd h (by decide)
                 try (exfalso; (try simp only [Bool.not_eq_eq_eq_not, Bool.not_true, Bool.not_false, decide_eq_false_iff_not, decide_eq_true_eq] at *); first | omega | (have g0 := g rfl; omega) | (simp_all; done))
                 all_goals
                  have hv : validB b = true := by
                   rcases hRc with h | h
                   ·exact h.2
                   ·omega
                  have hy := And.intro (if_pos hv : (if validB b = true then 0 else 4 : Int) = 0) (if_pos hv : (if validB b = true then -1 else 0 : Int) = -1)
                  refine rg ΦW12_ok [2, 3] (leafE 12 b) ?_
                  refine nx ?_
                  refine pureK_r (pureS_one (l := 20) (by simp -implicitDefEqProofs only [go_sem, Nat.reduceLT, Nat.reduceAdd, Nat.reduceEqDiff, reduceIte, Nat.reduceMul, Nat.reduceSub, reduceCtorEq, Int.reduceNe, Int.reduceEq, ne_eq, Nat.reduceLeDiff, Nat.reduceMod, Nat.reduceDiv]) ?_)
                  first
                  | exact fz hy
                ·intro h; try exact absurd h (by decide)
                 try (exfalso; (try simp only [Bool.not_eq_eq_eq_not, Bool.not_true, Bool.not_false, decide_eq_false_iff_not, decide_eq_true_eq] at *); first | omega | (have g0 := g rfl; omega) | (simp_all; done))
                 all_goals
                  have hv : ¬ validB b = true := by
                   rcases hRc with h | h
                   ·omega
                   ·rw [h.2]; decide
                  have h4 : R = 4 := by rcases hRc with h | h <;> omega
                  have hy := And.intro h4 (And.intro (if_neg hv : (if validB b = true then 0 else 4 : Int) = 4) (if_neg hv : (if validB b = true then -1 else 0 : Int) = 0))
                  refine dT ΦW12_ok (.alt 0 (.alt 1 (.alt 2 (.alt 3 .stop .done) .done) (.alt 2 (.alt 1 (.alt 3 .stop .done) .done) .done)) (.alt 1 (.alt 0 (.alt 2 (.alt 3 .stop .done) .done) .done) .done)) [2, 3] (leafE 12 b) ?_
                  refine nx ?_
                  refine pureK_r (pureS_one (l := 20) (by simp -implicitDefEqProofs only [go_sem, Nat.reduceLT, Nat.reduceAdd, Nat.reduceEqDiff, reduceIte, Nat.reduceMul, Nat.reduceSub, reduceCtorEq, Int.reduceNe, Int.reduceEq, ne_eq, Nat.reduceLeDiff, Nat.reduceMod, Nat.reduceDiv]) ?_)
                  first
                  | exact fz hy
             ·intro h; try exact absurd h (by decide)
              try (exfalso; (try simp only [Bool.not_eq_eq_eq_not, Bool.not_true, Bool.not_false, decide_eq_false_iff_not, decide_eq_true_eq] at *); first | omega | (have g0 := g rfl; omega) | (simp_all; done))
              all_goals
               refine rgL ΦW12_ok (leafE 12 b) ?_
               exact absurd (by assumption) (by decide)
           ·intro h; try exact absurd h (by decide)
            try (exfalso; (try simp only [Bool.not_eq_eq_eq_not, Bool.not_true, Bool.not_false, decide_eq_false_iff_not, decide_eq_true_eq] at *); first | omega | (have g0 := g rfl; omega) | (simp_all; done))
            all_goals
             refine rg ΦW12_ok [4] (leafE 12 b) ?_
             refine nx ?_
             refine rt (leafE 12 b) ?_
             repeat' first | (refine lfL hK (leafE 12 b) ?_; clear hK K') | with_reducible apply And.intro | exact sd | exact sde (leafE 12 b) | exact sdp (leafE 12 b) | refine stk (leafE 12 b) ?_ | fail
             all_goals
              refine nx ?_
              refine rt (leafE 12 b) ?_
              refine yc ?_
              refine rg ΦW12_ok [2, 6, 28] (leafE 12 b) ?_
              refine cn ?_ ?_
              ·intro h; try exact absurd h (by decide)
               try (exfalso; (try simp only [Bool.not_eq_eq_eq_not, Bool.not_true, Bool.not_false, decide_eq_false_iff_not, decide_eq_true_eq] at *); first | omega | (have g0 := g rfl; omega) | (simp_all; done))
               all_goals
                have hv : validB b = true := by
                 rcases hRc with h | h
                 ·exact h.2
                 ·omega
                have hy := And.intro (if_pos hv : (if validB b = true then 0 else 4 : Int) = 0) (if_pos hv : (if validB b = true then -1 else 0 : Int) = -1)
                refine rg ΦW12_ok [2, 3] (leafE 12 b) ?_
                refine nx ?_
                refine pureK_r (pureS_one (l := 20) (by simp -implicitDefEqProofs only [go_sem, Nat.reduceLT, Nat.reduceAdd, Nat.reduceEqDiff, reduceIte, Nat.reduceMul, Nat.reduceSub, reduceCtorEq, Int.reduceNe, Int.reduceEq, ne_eq, Nat.reduceLeDiff, Nat.reduceMod, Nat.reduceDiv]) ?_)
                first
                | exact fz hy
              ·intro h; try exact absurd h (by decide)
               try (exfalso; (try simp only [Bool.not_eq_eq_eq_not, Bool.not_true, Bool.not_false, decide_eq_false_iff_not, decide_eq_true_eq] at *); first | omega | (have g0 := g rfl; omega) | (simp_all; done))
               all_goals
                have hv : ¬ validB b = true := by
                 rcases hRc with h | h
                 ·omega
                 ·rw [h.2]; decide
                have h4 : R = 4 := by rcases hRc with h | h <;> omega
                have hy := And.intro h4 (And.intro (if_neg hv : (if validB b = true then 0 else 4 : Int) = 4) (if_neg hv : (if validB b = true then -1 else 0 : Int) = 0))
                refine dT ΦW12_ok (.alt 0 (.alt 1 (.alt 2 (.alt 3 .stop .done) .done) (.alt 2 (.alt 1 (.alt 3 .stop .done) .done) .done)) (.alt 1 (.alt 0 (.alt 2 (.alt 3 .stop .done) .done) .done) .done)) [2, 3] (leafE 12 b) ?_
                refine nx ?_
                refine pureK_r (pureS_one (l := 20) (by simp -implicitDefEqProofs only [go_sem, Nat.reduceLT, Nat.reduceAdd, Nat.reduceEqDiff, reduceIte, Nat.reduceMul, Nat.reduceSub, reduceCtorEq, Int.reduceNe, Int.reduceEq, ne_eq, Nat.reduceLeDiff, Nat.reduceMod, Nat.reduceDiv]) ?_)
                first
                | exact fz hy
      ·intro h; try exact absurd h (by decide)
       try (exfalso; (try simp only [Bool.not_eq_eq_eq_not, Bool.not_true, Bool.not_false, decide_eq_false_iff_not, decide_eq_true_eq] at *); first | omega | (have g0 := g rfl; omega) | (simp_all; done))
       all_goals
        refine rgL ΦW12_ok (leafE 12 b) ?_
        refine nx ?_
        refine rt (leafE 12 b) ?_
        repeat' first | (refine lf hK (leafE 12 b) ?_; clear hK K') | with_reducible apply And.intro | exact sd | exact sde (leafE 12 b) | exact sdp (leafE 12 b) | refine stk (leafE 12 b) ?_ | fail
        all_goals
         refine cn ?_ ?_
         ·intro h; try exact absurd h (by decide)
          try (exfalso; (try simp only [Bool.not_eq_eq_eq_not, Bool.not_true, Bool.not_false, decide_eq_false_iff_not, decide_eq_true_eq] at *); first | omega | (have g0 := g rfl; omega) | (simp_all; done))
          all_goals
           refine rg ΦW12_ok [4] (leafE 12 b) ?_
           refine nx ?_
           refine rt (leafE 12 b) ?_
           repeat' first | (refine lfL hK (leafE 12 b) ?_; clear hK K') | with_reducible apply And.intro | exact sd | exact sde (leafE 12 b) | exact sdp (leafE 12 b) | refine stk (leafE 12 b) ?_ | fail
           all_goals
            refine nx ?_
            refine rt (leafE 12 b) ?_
            refine ya ?_
            refine rg ΦW12_ok [2, 6, 28] (leafE 12 b) ?_
            refine cn ?_ ?_
            ·intro h; try exact absurd h (by decide)
             try (exfalso; (try simp only [Bool.not_eq_eq_eq_not, Bool.not_true, Bool.not_false, decide_eq_false_iff_not, decide_eq_true_eq] at *); first | omega | (have g0 := g rfl; omega) | (simp_all; done))
             all_goals
              have hv : validB b = true := by
               rcases hRc with h | h
               ·exact h.2
               ·omega
              have hy := And.intro (if_pos hv : (if validB b = true then 0 else 4 : Int) = 0) (if_pos hv : (if validB b = true then -1 else 0 : Int) = -1)
              refine rg ΦW12_ok [2, 3] (leafE 12 b) ?_
              refine nx ?_
              refine pureK_r (pureS_one (l := 20) (by simp -implicitDefEqProofs only [go_sem, Nat.reduceLT, Nat.reduceAdd, Nat.reduceEqDiff, reduceIte, Nat.reduceMul, Nat.reduceSub, reduceCtorEq, Int.reduceNe, Int.reduceEq, ne_eq, Nat.reduceLeDiff, Nat.reduceMod, Nat.reduceDiv]) ?_)
              first
              | exact fz hy
            ·intro h; try exact absurd h (by decide)
             try (exfalso; (try simp only [Bool.not_eq_eq_eq_not, Bool.not_true, Bool.not_false, decide_eq_false_iff_not, decide_eq_true_eq] at *); first | omega | (have g0 := g rfl; omega) | (simp_all; done))
             all_goals
              have hv : ¬ validB b = true := by
               rcases hRc with h | h
               ·omega
               ·rw [h.2]; decide
              have h4 : R = 4 := by rcases hRc with h | h <;> omega
              have hy := And.intro h4 (And.intro (if_neg hv : (if validB b = true then 0 else 4 : Int) = 4) (if_neg hv : (if validB b = true then -1 else 0 : Int) = 0))
              refine dT ΦW12_ok (.alt 0 (.alt 1 (.alt 2 (.alt 3 .stop .done) .done) (.alt 2 (.alt 1 (.alt 3 .stop .done) .done) .done)) (.alt 1 (.alt 0 (.alt 2 (.alt 3 .stop .done) .done) .done) .done)) [2, 3] (leafE 12 b) ?_
              refine nx ?_
              refine pureK_r (pureS_one (l := 20) (by simp -implicitDefEqProofs only [go_sem, Nat.reduceLT, Nat.reduceAdd, Nat.reduceEqDiff, reduceIte, Nat.reduceMul, Nat.reduceSub, reduceCtorEq, Int.reduceNe, Int.reduceEq, ne_eq, Nat.reduceLeDiff, Nat.reduceMod, Nat.reduceDiv]) ?_)
              first
              | exact fz hy
         ·intro h; try exact absurd h (by decide)
          try (exfalso; (try simp only [Bool.not_eq_eq_eq_not, Bool.not_true, Bool.not_false, decide_eq_false_iff_not, decide_eq_true_eq] at *); first | omega | (have g0 := g rfl; omega) | (simp_all; done))
          all_goals
           refine rg ΦW12_ok [0, 1, 14, 15] (leafE 12 b) ?_
           refine nx ?_
           refine VC.loopS (ι := Unit) [0, 1, 14, 15] (fun _ => []) (fun _ => []) (fun _ => True) (fun _ => 0) () trivial ?_ ?_
           ·refine Ent.to rfl rfl rfl ?_ ?_
            ·simp -implicitDefEqProofs only [go_sem, Nat.reduceLT, Nat.reduceAdd, Nat.reduceEqDiff, reduceIte, Nat.reduceMul, Nat.reduceSub, reduceCtorEq, Int.reduceNe, Int.reduceEq, ne_eq, Nat.reduceLeDiff, Nat.reduceMod, Nat.reduceDiv]; (try simp only [D.dat.injEq, Vm.Data.int.injEq, true_and, and_true, and_self, eq_self]); (try omega); (try ((repeat' apply And.intro) <;> first | omega | rfl))
            ·apply all_at
             ·(repeat' (first | exact all_nil | (refine all_cons ?_ ?_))) <;> (simp -implicitDefEqProofs only [go_sem, Nat.reduceLT, Nat.reduceAdd, Nat.reduceEqDiff, reduceIte, Nat.reduceMul, Nat.reduceSub, reduceCtorEq, Int.reduceNe, Int.reduceEq, ne_eq, Nat.reduceLeDiff, Nat.reduceMod, Nat.reduceDiv]; (try rfl); skip)
             ·(repeat' (first | exact all_nil | (refine all_cons ?_ ?_))) <;> (simp -implicitDefEqProofs only [go_sem, Nat.reduceLT, Nat.reduceAdd, Nat.reduceEqDiff, reduceIte, Nat.reduceMul, Nat.reduceSub, reduceCtorEq, Int.reduceNe, Int.reduceEq, ne_eq, Nat.reduceLeDiff, Nat.reduceMod, Nat.reduceDiv]; (try rfl); skip)
           intro i hp; (try dsimp only at hp)
           refine st0 ?_
           refine rg ΦW12_ok [0, 1, 14, 15, 16] (leafE 12 b) ?_
           refine cn ?_ ?_
           ·intro h; try exact absurd h (by decide)
            try (exfalso; (try simp only [Bool.not_eq_eq_eq_not, Bool.not_true, Bool.not_false, decide_eq_false_iff_not, decide_eq_true_eq] at *); first | omega | (have g0 := g rfl; omega) | (simp_all; done))
            all_goals
             refine rg ΦW12_ok [0, 1, 5, 14, 15] (leafE 12 b) ?_
             refine rg ΦW12_ok [0, 1, 14, 15, 26] (leafE 12 b) ?_
             refine cn ?_ ?_
             ·intro h; try exact absurd h (by decide)
              try (exfalso; (try simp only [Bool.not_eq_eq_eq_not, Bool.not_true, Bool.not_false, decide_eq_false_iff_not, decide_eq_true_eq] at *); first | omega | (have g0 := g rfl; omega) | (simp_all; done))
              all_goals
               refine rg ΦW12_ok [4] (leafE 12 b) ?_
               refine nx ?_
               refine rt (leafE 12 b) ?_
               repeat' first | (refine lfL hK (leafE 12 b) ?_; clear hK K') | with_reducible apply And.intro | exact sd | exact sde (leafE 12 b) | exact sdp (leafE 12 b) | refine stk (leafE 12 b) ?_ | fail
               all_goals
                refine nx ?_
                refine rt (leafE 12 b) ?_
                refine ya ?_
                refine rg ΦW12_ok [2, 6, 28] (leafE 12 b) ?_
                refine cn ?_ ?_
                ·intro h; try exact absurd h (by decide)
                 try (exfalso; (try simp only [Bool.not_eq_eq_eq_not, Bool.not_true, Bool.not_false, decide_eq_false_iff_not, decide_eq_true_eq] at *); first | omega | (have g0 := g rfl; omega) | (simp_all; done))
                 all_goals
                  have hv : validB b = true := by
                   rcases hRc with h | h
                   ·exact h.2
                   ·omega
                  have hy := And.intro (if_pos hv : (if validB b = true then 0 else 4 : Int) = 0) (if_pos hv : (if validB b = true then -1 else 0 : Int) = -1)
                  refine rg ΦW12_ok [2, 3] (leafE 12 b) ?_
                  refine nx ?_
                  refine pureK_r (pureS_one (l := 20) (by simp -implicitDefEqProofs only [go_sem, Nat.reduceLT, Nat.reduceAdd, Nat.reduceEqDiff, reduceIte, Nat.reduceMul, Nat.reduceSub, reduceCtorEq, Int.reduceNe, Int.reduceEq, ne_eq, Nat.reduceLeDiff, Nat.reduceMod, Nat.reduceDiv]) ?_)
                  first
                  | exact fz hy
                ·intro h; try exact absurd h (by decide)
                 try (exfalso; (try simp only [Bool.not_eq_eq_eq_not, Bool.not_true, Bool.not_false, decide_eq_false_iff_not, decide_eq_true_eq] at *); first | omega | (have g0 := g rfl; omega) | (simp_all; done))
                 all_goals
                  have hv : ¬ validB b = true := by
                   rcases hRc with h | h
                   ·omega
                   ·rw [h.2]; decide
                  have h4 : R = 4 := by rcases hRc with h | h <;> omega
                  have hy := And.intro h4 (And.intro (if_neg hv : (if validB b = true then 0 else 4 : Int) = 4) (if_neg hv : (if validB b = true then -1 else 0 : Int) = 0))
                  refine dT ΦW12_ok (.alt 0 (.alt 1 (.alt 2 (.alt 3 .stop .done) .done) (.alt 2 (.alt 1 (.alt 3 .stop .done) .done) .done)) (.alt 1 (.alt 0 (.alt 2 (.alt 3 .stop .done) .done) .done) .done)) [2, 3] (leafE 12 b) ?_
                  refine nx ?_
                  refine pureK_r (pureS_one (l := 20) (by simp -implicitDefEqProofs only [go_sem, Nat.reduceLT, Nat.reduceAdd, Nat.reduceEqDiff, reduceIte, Nat.reduceMul, Nat.reduceSub, reduceCtorEq, Int.reduceNe, Int.reduceEq, ne_eq, Nat.reduceLeDiff, Nat.reduceMod, Nat.reduceDiv]) ?_)
                  first
                  | exact fz hy
             ·intro h; try exact absurd h (by decide)
              try (exfalso; (try simp only [Bool.not_eq_eq_eq_not, Bool.not_true, Bool.not_false, decide_eq_false_iff_not, decide_eq_true_eq] at *); first | omega | (have g0 := g rfl; omega) | (simp_all; done))
              all_goals
               refine rgL ΦW12_ok (leafE 12 b) ?_
               exact absurd (by assumption) (by decide)
           ·intro h; try exact absurd h (by decide)
            try (exfalso; (try simp only [Bool.not_eq_eq_eq_not, Bool.not_true, Bool.not_false, decide_eq_false_iff_not, decide_eq_true_eq] at *); first | omega | (have g0 := g rfl; omega) | (simp_all; done))
            all_goals
             refine rg ΦW12_ok [4] (leafE 12 b) ?_
             refine nx ?_
             refine rt (leafE 12 b) ?_
             repeat' first | (refine lfL hK (leafE 12 b) ?_; clear hK K') | with_reducible apply And.intro | exact sd | exact sde (leafE 12 b) | exact sdp (leafE 12 b) | refine stk (leafE 12 b) ?_ | fail
             all_goals
              refine nx ?_
              refine rt (leafE 12 b) ?_
              refine ya ?_
              refine rg ΦW12_ok [2, 6, 28] (leafE 12 b) ?_
              refine cn ?_ ?_
              ·intro h; try exact absurd h (by decide)
               try (exfalso; (try simp only [Bool.not_eq_eq_eq_not, Bool.not_true, Bool.not_false, decide_eq_false_iff_not, decide_eq_true_eq] at *); first | omega | (have g0 := g rfl; omega) | (simp_all; done))
               all_goals
                have hv : validB b = true := by
                 rcases hRc with h | h
                 ·exact h.2
                 ·omega
                have hy := And.intro (if_pos hv : (if validB b = true then 0 else 4 : Int) = 0) (if_pos hv : (if validB b = true then -1 else 0 : Int) = -1)
                refine rg ΦW12_ok [2, 3] (leafE 12 b) ?_
                refine nx ?_
                refine pureK_r (pureS_one (l := 20) (by simp -implicitDefEqProofs only [go_sem, Nat.reduceLT, Nat.reduceAdd, Nat.reduceEqDiff, reduceIte, Nat.reduceMul, Nat.reduceSub, reduceCtorEq, Int.reduceNe, Int.reduceEq, ne_eq, Nat.reduceLeDiff, Nat.reduceMod, Nat.reduceDiv]) ?_)
                first
                | exact fz hy
              ·intro h; try exact absurd h (by decide)
               try (exfalso; (try simp only [Bool.not_eq_eq_eq_not, Bool.not_true, Bool.not_false, decide_eq_false_iff_not, decide_eq_true_eq] at *); first | omega | (have g0 := g rfl; omega) | (simp_all; done))
               all_goals
                have hv : ¬ validB b = true := by
                 rcases hRc with h | h
                 ·omega
                 ·rw [h.2]; decide
                have h4 : R = 4 := by rcases hRc with h | h <;> omega
                have hy := And.intro h4 (And.intro (if_neg hv : (if validB b = true then 0 else 4 : Int) = 4) (if_neg hv : (if validB b = true then -1 else 0 : Int) = 0))
                refine dT ΦW12_ok (.alt 0 (.alt 1 (.alt 2 (.alt 3 .stop .done) .done) (.alt 2 (.alt 1 (.alt 3 .stop .done) .done) .done)) (.alt 1 (.alt 0 (.alt 2 (.alt 3 .stop .done) .done) .done) .done)) [2, 3] (leafE 12 b) ?_
                refine nx ?_
                refine pureK_r (pureS_one (l := 20) (by simp -implicitDefEqProofs only [go_sem, Nat.reduceLT, Nat.reduceAdd, Nat.reduceEqDiff, reduceIte, Nat.reduceMul, Nat.reduceSub, reduceCtorEq, Int.reduceNe, Int.reduceEq, ne_eq, Nat.reduceLeDiff, Nat.reduceMod, Nat.reduceDiv]) ?_)
                first
                | exact fz hy)
noncomputable def ΦK12 : Fns := tab [(158, wrong12F)]
theorem ΦK12_ok : Sound E ΦK12 := sound_cons (by kernel_rfl) wrong12_ok (sound_nil)
@[go_sem] theorem ΦK12_r : ΦK12 158 = some wrong12F := rfl
@[go_sem] noncomputable def check12F : PFn := PF [SNp 12] (fun (b : List UInt8) => b.length ≤ 4611686018427387904) (fun (b : List UInt8) => [.int .i64 (if validB b then 0 else 110)])
theorem check12_ok : Pure E 116 check12F := Pure.of_sig (rs := [.tmp 2]) (n := 12) Tryz.func116 rfl rfl rfl (Nat.le_of_ble_eq_true rfl) (by
 intro (b : List UInt8) hds
 refine st0 ?_
 refine rg ΦK12_ok [1] (leafE 12 b) ?_
 refine rg ΦK12_ok [3] (leafE 12 b) ?_
 refine rg ΦK12_ok [11] (leafE 12 b) ?_
 refine cn ?_ ?_
 ·intro h; try exact absurd h (by decide)
  all_goals
   have hy : (if validB b = true then 0 else 110 : Int) = 110 := if_neg (by intro hv; rw [if_pos hv] at *; simp_all)
   refine rg ΦK12_ok [2] (leafE 12 b) ?_
   first
   | exact fz hy
 ·intro h; try exact absurd h (by decide)
  all_goals
   have hy : (if validB b = true then 0 else 110 : Int) = 0 := if_pos (by cases hv : validB b <;> simp_all)
   refine rg ΦK12_ok [2] (leafE 12 b) ?_
   first
   | exact fz hy)
end Go.Proofs.YtpajpkbipagjpaaGreatDoor.Oc
namespace Go.Proofs.YtpajpkbipagjpaaGreatDoor.Oc
open Go Go.RowKit Go.Proofs.YtpajpkbipagjpaaGreatDoor.Vm Go.Proofs.YtpajpkbipagjpaaGreatDoor.Tr Go.IntWalk
set_option maxRecDepth 100000
set_option maxHeartbeats 4000000
def lbN (x : Bool × List UInt8) : T := primT (if x.1 then 19 else 12) x.2
theorem lbN_inj {a b : Bool × List UInt8} (h : nodeC (lbN a) = nodeC (lbN b)) : a = b := by
 have := nodeC_inj h
 unfold lbN primT at this
 obtain ⟨p, s⟩ := a
 obtain ⟨q, t⟩ := b
 injection this with _ h1 _ h2
 cases p <;> cases q <;> simp_all
@[reducible] def SLb : Sig := ⟨Bool × List UInt8, fun x => .agg (nodeC (lbN x)), fun _ _ h => by injection h with h; exact lbN_inj h⟩
@[go_sem] theorem SLb_enc {x : Bool × List UInt8} : SLb.enc x = .agg (nodeC (lbN x)) := rfl
theorem SLb_dec (r : Rd) : SLb.dec (.agg [.int .i64 (labelT r).cls, .int .i64 (labelT r).tag, .bool (labelT r).cons, .lst (bytesD (labelT r).bytes), .lst (nodesD (labelT r).kids)]) = some (r.print, r.text) := by
 have := SLb.dec_enc (r.print, r.text)
 rw [SLb_enc] at this
 rwa [show lbN (r.print, r.text) = labelT r from rfl, nodeC_eq] at this
@[go_sem] theorem ap_SLb {β : Type} {z : β} {ss : List Sig} {ds : List Vm.Data} {f : Fun (SLb :: ss) β} {r : Rd} : ap z (SLb :: ss) f (.agg [.int .i64 (labelT r).cls, .int .i64 (labelT r).tag, .bool (labelT r).cons, .lst (bytesD (labelT r).bytes), .lst (nodesD (labelT r).kids)] :: ds) = ap z ss (f (r.print, r.text)) ds := by
 rw [ap_cons, SLb_dec, apO_some]
theorem Pure.of_label {f : Nat} {R : Bool × List UInt8 → List Vm.Data} (h12 : Pure E f (PF [SNp 12] (fun b : List UInt8 => b.length ≤ 4611686018427387904) (fun b : List UInt8 => R (false, b)))) (h19 : Pure E f (PF [SNp 19] (fun b : List UInt8 => b.length ≤ 4611686018427387904) (fun b : List UInt8 => R (true, b)))) :
 Pure E f (PF [SLb] (fun x : Bool × List UInt8 => x.2.length ≤ 4611686018427387904) (fun x : Bool × List UInt8 => R x)) := by
 intro w J args ds hJ hG hR hpre
 have key : allS (fun ds r => ∃ p, Pure E f p ∧ p.pre ds ∧ p.res ds = r) [SLb] (fun x : Bool × List UInt8 => x.2.length ≤ 4611686018427387904) (fun x : Bool × List UInt8 => R x) id := by
  rintro ⟨p, b⟩ hb
  cases p with
  | false =>
    refine ⟨_, h12, ?_, ?_⟩
    ·show ap False [SNp 12] _ [(SNp 12).enc b]
     rw [ap_cons, Sig.dec_enc, apO_some]; exact hb
    ·show ap [] [SNp 12] _ [(SNp 12).enc b] = _
     rw [ap_cons, Sig.dec_enc, apO_some]; rfl
  | true =>
    refine ⟨_, h19, ?_, ?_⟩
    ·show ap False [SNp 19] _ [(SNp 19).enc b]
     rw [ap_cons, Sig.dec_enc, apO_some]; exact hb
    ·show ap [] [SNp 19] _ [(SNp 19).enc b] = _
     rw [ap_cons, Sig.dec_enc, apO_some]; rfl
 obtain ⟨p, hp, h1, h2⟩ := allS_ok (z := []) _ _ _ id key ds hpre
 rw [PF_res, ← h2]
 exact hp w J args ds hJ hG hR h1
@[go_sem] noncomputable def checkLF : PFn := PF [SLb] (fun x : Bool × List UInt8 => x.2.length ≤ 4611686018427387904) (fun x : Bool × List UInt8 => [.int .i64 (if fits2 x.1 x.2 then 0 else 110)])
theorem checkL_ok : Pure E 116 checkLF := Pure.of_label (R := fun x => [.int .i64 (if fits2 x.1 x.2 then 0 else 110)]) check12_ok check19_ok
noncomputable def ΦLB : Fns := tab [(61, cprimF)]
theorem ΦLB_ok : Sound E ΦLB := sound_cons (by kernel_rfl) cprim_ok (sound_nil)
@[go_sem] theorem ΦLB_r : ΦLB 61 = some cprimF := rfl
@[go_sem] noncomputable def clabelF : PFn := PF [SR] (fun (x : Rd) => x.text.length ≤ 90000) (fun (x : Rd) => [nodeD (labelT x)])
theorem clabel_ok : Pure E 80 clabelF := Pure.of_sig (rs := [.cell 2 25]) (n := 13) Tryz.func80 rfl rfl rfl (Nat.le_of_ble_eq_true rfl) (by
 intro (x : Rd) hds
 refine st0 ?_
 refine rg ΦLB_ok [1, 2] trivial ?_
 refine rg ΦLB_ok [1, 2, 4] trivial ?_
 refine cn ?_ ?_
 ·intro h; try exact absurd h (by decide)
  all_goals
   have hp : x.print = true := by simp_all
   have hy : labelT x = primT 19 x.text := by unfold labelT; rw [hp]; rfl
   refine rg ΦLB_ok [2] trivial ?_
   first
   | exact fz hy
 ·intro h; try exact absurd h (by decide)
  all_goals
   have hp : x.print = false := by simp_all
   have hy : labelT x = primT 12 x.text := by unfold labelT; rw [hp]; rfl
   refine rg ΦLB_ok [2] trivial ?_
   first
   | exact fz hy)
end Go.Proofs.YtpajpkbipagjpaaGreatDoor.Oc

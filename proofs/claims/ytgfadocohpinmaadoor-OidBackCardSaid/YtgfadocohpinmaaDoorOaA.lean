/- What the small functions of chapter 14, and Bytes, compute: their contracts. No condition. -/
import Derived.Test.YtgfadocohpinmaaDoorVmE
import Derived.Test.YtgfadocohpinmaaDoorProg
import Derived.WalkKit
import Derived.IntWalk
set_option linter.unusedVariables false
set_option linter.unusedSimpArgs false
namespace Go.Proofs.YtgfadocohpinmaaDoor.Oa
open Go Go.RowKit Go.Proofs.YtgfadocohpinmaaDoor.Vm Go.IntWalk
set_option maxRecDepth 100000
set_option maxHeartbeats 4000000
/-- The program's known names, each with its text. -/
def knownP : List (List UInt8 × List UInt8) := [([115, 104, 97, 50, 50, 52], [50, 46, 49, 54, 46, 56, 52, 48, 46, 49, 46, 49, 48, 49, 46, 51, 46, 52, 46, 50, 46, 52]), ([115, 104, 97, 50, 53, 54], [50, 46, 49, 54, 46, 56, 52, 48, 46, 49, 46, 49, 48, 49, 46, 51, 46, 52, 46, 50, 46, 49]), ([115, 104, 97, 51, 56, 52], [50, 46, 49, 54, 46, 56, 52, 48, 46, 49, 46, 49, 48, 49, 46, 51, 46, 52, 46, 50, 46, 50]), ([115, 104, 97, 53, 49, 50], [50, 46, 49, 54, 46, 56, 52, 48, 46, 49, 46, 49, 48, 49, 46, 51, 46, 52, 46, 50, 46, 51]), ([114, 115, 97], [49, 46, 50, 46, 56, 52, 48, 46, 49, 49, 51, 53, 52, 57, 46, 49, 46, 49, 46, 49]), ([109, 103, 102, 49], [49, 46, 50, 46, 56, 52, 48, 46, 49, 49, 51, 53, 52, 57, 46, 49, 46, 49, 46, 56]), ([112, 115, 115], [49, 46, 50, 46, 56, 52, 48, 46, 49, 49, 51, 53, 52, 57, 46, 49, 46, 49, 46, 49, 48]), ([114, 115, 97, 50, 50, 52], [49, 46, 50, 46, 56, 52, 48, 46, 49, 49, 51, 53, 52, 57, 46, 49, 46, 49, 46, 49, 52]), ([114, 115, 97, 50, 53, 54], [49, 46, 50, 46, 56, 52, 48, 46, 49, 49, 51, 53, 52, 57, 46, 49, 46, 49, 46, 49, 49]), ([114, 115, 97, 51, 56, 52], [49, 46, 50, 46, 56, 52, 48, 46, 49, 49, 51, 53, 52, 57, 46, 49, 46, 49, 46, 49, 50]), ([114, 115, 97, 53, 49, 50], [49, 46, 50, 46, 56, 52, 48, 46, 49, 49, 51, 53, 52, 57, 46, 49, 46, 49, 46, 49, 51]), ([100, 97, 116, 97], [49, 46, 50, 46, 56, 52, 48, 46, 49, 49, 51, 53, 52, 57, 46, 49, 46, 55, 46, 49]), ([115, 105, 103, 110, 101, 100], [49, 46, 50, 46, 56, 52, 48, 46, 49, 49, 51, 53, 52, 57, 46, 49, 46, 55, 46, 50]), ([99, 111, 110, 116, 101, 110, 116, 84, 121, 112, 101], [49, 46, 50, 46, 56, 52, 48, 46, 49, 49, 51, 53, 52, 57, 46, 49, 46, 57, 46, 51]), ([109, 101, 115, 115, 97, 103, 101, 68, 105, 103, 101, 115, 116], [49, 46, 50, 46, 56, 52, 48, 46, 49, 49, 51, 53, 52, 57, 46, 49, 46, 57, 46, 52]), ([115, 105, 103, 110, 105, 110, 103, 84, 105, 109, 101], [49, 46, 50, 46, 56, 52, 48, 46, 49, 49, 51, 53, 52, 57, 46, 49, 46, 57, 46, 53]), ([99, 111, 117, 110, 116, 101, 114, 115, 105, 103, 110, 97, 116, 117, 114, 101], [49, 46, 50, 46, 56, 52, 48, 46, 49, 49, 51, 53, 52, 57, 46, 49, 46, 57, 46, 54]), ([116, 115, 116, 73, 110, 102, 111], [49, 46, 50, 46, 56, 52, 48, 46, 49, 49, 51, 53, 52, 57, 46, 49, 46, 57, 46, 49, 54, 46, 49, 46, 52]), ([115, 105, 103, 110, 105, 110, 103, 67, 101, 114, 116, 105, 102, 105, 99, 97, 116, 101, 86, 50], [49, 46, 50, 46, 56, 52, 48, 46, 49, 49, 51, 53, 52, 57, 46, 49, 46, 57, 46, 49, 54, 46, 50, 46, 52, 55]), ([99, 111, 109, 109, 111, 110, 78, 97, 109, 101], [50, 46, 53, 46, 52, 46, 51]), ([99, 111, 117, 110, 116, 114, 121, 78, 97, 109, 101], [50, 46, 53, 46, 52, 46, 54]), ([111, 114, 103, 97, 110, 105, 122, 97, 116, 105, 111, 110, 78, 97, 109, 101], [50, 46, 53, 46, 52, 46, 49, 48]), ([107, 101, 121, 85, 115, 97, 103, 101], [50, 46, 53, 46, 50, 57, 46, 49, 53]), ([98, 97, 115, 105, 99, 67, 111, 110, 115, 116, 114, 97, 105, 110, 116, 115], [50, 46, 53, 46, 50, 57, 46, 49, 57]), ([101, 120, 116, 75, 101, 121, 85, 115, 97, 103, 101], [50, 46, 53, 46, 50, 57, 46, 51, 55]), ([116, 105, 109, 101, 83, 116, 97, 109, 112, 105, 110, 103], [49, 46, 51, 46, 54, 46, 49, 46, 53, 46, 53, 46, 55, 46, 51, 46, 56])]
def knownCs (l : List (List UInt8 × List UInt8)) : List Vm.Data := l.flatMap fun x => [.str x.1, .str x.2]
def powD : List Vm.Data := (List.range 20).map fun j => .int .u64 ((10 ^ j : Nat) : Int)
def errD : Vm.Data := .iface 123 (.ptr [])
def Gl : Nat → Option (List Vm.Data) := fun g => if g = 1 then some powD else if g = 2 then some [errD] else if g = 3 then some [errD] else none
def Gl1 : Nat → Option (List Vm.Data) := fun g => if g = 0 then some (knownCs knownP) else Gl g
noncomputable def E : Env := ⟨Tryd.prog, Gl⟩
noncomputable def E1 : Env := ⟨Tryd.prog, Gl1⟩
@[go_sem] theorem E1_P : E1.P = Tryd.prog := rfl
@[go_sem] theorem E1_G0 : E1.G 0 = some (knownCs knownP) := rfl
theorem glob1 {w : World} {J : Cset} (h : Glob E1 w J) : Glob E w J := fun g cs hg => h g cs (by
  show Gl1 g = some cs
  unfold Gl1
  have hg' : Gl g = some cs := hg
  by_cases h0 : g = 0
  · subst h0; cases hg'
  · rw [if_neg h0]; exact hg')
theorem lift1 {f : Nat} {p : PFn} (h : Pure E f p) : Pure E1 f p := fun w J args ds hJ hG => h w J args ds hJ (glob1 hG)
theorem liftO {f : Nat} {p : OFn} (h : Own E f p) : Own E1 f p := fun w J args ds hJ hG => h w J args ds hJ (glob1 hG)
@[go_sem] theorem E_P : E.P = Tryd.prog := rfl
theorem tmodn {a b : Int} (h : 0 ≤ a) : a.tmod b = a % b := Int.tmod_eq_emod_of_nonneg h
theorem tdivn {a b : Int} (h : 0 ≤ a) : a.tdiv b = a / b := Int.tdiv_eq_ediv_of_nonneg h
@[go_sem] theorem k3 : kindT Tryd.prog 3 = .int .i64 := by kernel_rfl
@[go_sem] theorem s3 : szT Tryd.prog 3 = 1 := by kernel_rfl
@[go_sem] theorem p3 : posT Tryd.prog 3 = true := by kernel_rfl
@[go_sem] theorem b3 : bytesT Tryd.prog 3 = 8 := by kernel_rfl
@[go_sem] theorem k4 : kindT Tryd.prog 4 = .bool := by kernel_rfl
@[go_sem] theorem s4 : szT Tryd.prog 4 = 1 := by kernel_rfl
@[go_sem] theorem p4 : posT Tryd.prog 4 = true := by kernel_rfl
@[go_sem] theorem b4 : bytesT Tryd.prog 4 = 1 := by kernel_rfl
@[go_sem] theorem k5 : kindT Tryd.prog 5 = .int .u8 := by kernel_rfl
@[go_sem] theorem s5 : szT Tryd.prog 5 = 1 := by kernel_rfl
@[go_sem] theorem p5 : posT Tryd.prog 5 = true := by kernel_rfl
@[go_sem] theorem b5 : bytesT Tryd.prog 5 = 1 := by kernel_rfl
@[go_sem] theorem k9 : kindT Tryd.prog 9 = .str := by kernel_rfl
@[go_sem] theorem s9 : szT Tryd.prog 9 = 1 := by kernel_rfl
@[go_sem] theorem p9 : posT Tryd.prog 9 = true := by kernel_rfl
@[go_sem] theorem b9 : bytesT Tryd.prog 9 = 16 := by kernel_rfl
@[go_sem] theorem k20 : kindT Tryd.prog 20 = .iface := by kernel_rfl
@[go_sem] theorem s20 : szT Tryd.prog 20 = 1 := by kernel_rfl
@[go_sem] theorem p20 : posT Tryd.prog 20 = true := by kernel_rfl
@[go_sem] theorem b20 : bytesT Tryd.prog 20 = 16 := by kernel_rfl
@[go_sem] theorem k22 : kindT Tryd.prog 22 = .slice 36 := by kernel_rfl
@[go_sem] theorem s22 : szT Tryd.prog 22 = 1 := by kernel_rfl
@[go_sem] theorem p22 : posT Tryd.prog 22 = true := by kernel_rfl
@[go_sem] theorem b22 : bytesT Tryd.prog 22 = 24 := by kernel_rfl
@[go_sem] theorem k38 : kindT Tryd.prog 38 = .slice 5 := by kernel_rfl
@[go_sem] theorem s38 : szT Tryd.prog 38 = 1 := by kernel_rfl
@[go_sem] theorem p38 : posT Tryd.prog 38 = true := by kernel_rfl
@[go_sem] theorem b38 : bytesT Tryd.prog 38 = 24 := by kernel_rfl
@[go_sem] theorem k24 : kindT Tryd.prog 24 = .int .i64 := by kernel_rfl
@[go_sem] theorem s24 : szT Tryd.prog 24 = 1 := by kernel_rfl
@[go_sem] theorem p24 : posT Tryd.prog 24 = true := by kernel_rfl
@[go_sem] theorem b24 : bytesT Tryd.prog 24 = 8 := by kernel_rfl
@[go_sem] theorem k36 : kindT Tryd.prog 36 = .int .u64 := by kernel_rfl
@[go_sem] theorem s36 : szT Tryd.prog 36 = 1 := by kernel_rfl
@[go_sem] theorem p36 : posT Tryd.prog 36 = true := by kernel_rfl
@[go_sem] theorem b36 : bytesT Tryd.prog 36 = 8 := by kernel_rfl
@[go_sem] theorem k67 : kindT Tryd.prog 67 = .func := by kernel_rfl
@[go_sem] theorem s67 : szT Tryd.prog 67 = 1 := by kernel_rfl
@[go_sem] theorem p67 : posT Tryd.prog 67 = true := by kernel_rfl
@[go_sem] theorem b67 : bytesT Tryd.prog 67 = 8 := by kernel_rfl
@[go_sem] theorem z5 : zeroT Tryd.prog 5 = some [.dat (.int .u8 0)] := by kernel_rfl
@[go_sem] theorem z36 : zeroT Tryd.prog 36 = some [.dat (.int .u64 0)] := by kernel_rfl
@[go_sem] theorem z3 : zeroT Tryd.prog 3 = some [.dat (.int .i64 0)] := by kernel_rfl
@[go_sem] theorem z38 : zeroT Tryd.prog 38 = some [.nilsl] := by kernel_rfl
@[go_sem] theorem z22 : zeroT Tryd.prog 22 = some [.nilsl] := by kernel_rfl
@[go_sem] theorem e22 : elemT Tryd.prog 22 = some (36, 1) := by kernel_rfl
@[go_sem] theorem e38 : elemT Tryd.prog 38 = some (5, 1) := by kernel_rfl
@[go_sem] theorem k50 : kindT Tryd.prog 50 = .slice 9 := by kernel_rfl
@[go_sem] theorem s50 : szT Tryd.prog 50 = 1 := by kernel_rfl
@[go_sem] theorem p50 : posT Tryd.prog 50 = true := by kernel_rfl
@[go_sem] theorem b50 : bytesT Tryd.prog 50 = 24 := by kernel_rfl
@[go_sem] theorem z9 : zeroT Tryd.prog 9 = some [.dat (.str [])] := by kernel_rfl
@[go_sem] theorem e50 : elemT Tryd.prog 50 = some (9, 1) := by kernel_rfl
end Go.Proofs.YtgfadocohpinmaaDoor.Oa
namespace Go.Proofs.YtgfadocohpinmaaDoor.Oa
open Go Go.RowKit Go.Proofs.YtgfadocohpinmaaDoor.Vm Go.IntWalk
set_option maxRecDepth 100000
set_option maxHeartbeats 4000000
theorem eq_at {α : Type} [Inhabited α] (d : α) (l m : List α) (h : l.length = m.length) (hj : ∀ j < l.length, l.getD j d = m.getD j d) : l = m := by
  apply List.ext_getElem h
  intro j h1 h2
  have := hj j h1
  simpa [List.getD_eq_getElem?_getD, h1, h2] using this
def sameA (x : List Nat × List Nat) : List Vm.Data := let (a, b) := x; [.lst (numsD a), .lst (numsD b)]
noncomputable def sameF : PFn := PFn.of sameA (fun (a, b) => a.length ≤ 4611686018427387904) (fun (a, b) => [.bool (decide (a = b))])
theorem same_inj (x y : List Nat × List Nat) (h : sameA x = sameA y) : x = y := by
  simpa [sameA, Prod.ext_iff, numsD_inj, bytesD_inj, Vm.Data.lst.injEq, Int.natCast_inj] using h
@[go_sem] theorem same_pre (a : List Nat) (b : List Nat) : sameF.pre [.lst (numsD a), .lst (numsD b)] = (a.length ≤ 4611686018427387904) := PFn.of_pre same_inj (a, b)
@[go_sem] theorem same_res (a : List Nat) (b : List Nat) : sameF.res [.lst (numsD a), .lst (numsD b)] = [.bool (decide (a = b))] := PFn.of_res same_inj (a, b)
theorem same_ok : Pure E 13 sameF := by
  apply Pure.of_body (rs := [.tmp 4]) (n := 26) Tryd.func13 rfl rfl rfl
  intro ds hds
  obtain ⟨⟨a, b⟩, rfl, hds⟩ := hds
  (try dsimp only at hds)
  rw [show sameF.res (sameA (a, b)) = [.bool (decide (a = b))] from same_res a b]
  skip
  refine ⟨Nat.le_of_ble_eq_true rfl, ?_⟩
  show VC E none _ (pureSt 26 [.lst (numsD a), .lst (numsD b)]) _
  apply VC.regt sound_nil [0, 1]; intro K' hK; dsimp only [List.take, List.drop, List.map, strip, stripG]; simp -implicitDefEqProofs only [go_sem, Nat.reduceLT, Nat.reduceAdd, Nat.reduceEqDiff, reduceIte, Nat.reduceMul, Nat.reduceSub, reduceCtorEq, Int.reduceNe, Int.reduceEq, ne_eq, Nat.reduceLeDiff, Nat.reduceMod, Nat.reduceDiv]
  (repeat' first | (refine hK _ ?_; clear hK K') | with_reducible apply And.intro | omega)
  all_goals
    apply VC.at
    · simp -implicitDefEqProofs only [go_sem, Nat.reduceLT, Nat.reduceAdd, Nat.reduceEqDiff, reduceIte, Nat.reduceMul, Nat.reduceSub, reduceCtorEq, Int.reduceNe, Int.reduceEq, ne_eq, Nat.reduceLeDiff, Nat.reduceMod, Nat.reduceDiv]; (try simp (disch := omega) only [i64_in, tmodn, tdivn]); exact rfl
    apply VC.seq
    apply VC.regt sound_nil [0, 1, 10]; intro K' hK; dsimp only [List.take, List.drop, List.map, strip, stripG]; simp -implicitDefEqProofs only [go_sem, Nat.reduceLT, Nat.reduceAdd, Nat.reduceEqDiff, reduceIte, Nat.reduceMul, Nat.reduceSub, reduceCtorEq, Int.reduceNe, Int.reduceEq, ne_eq, Nat.reduceLeDiff, Nat.reduceMod, Nat.reduceDiv]
    (repeat' first | (refine hK _ ?_; clear hK K') | with_reducible apply And.intro | omega)
    all_goals
      apply VC.at
      · simp -implicitDefEqProofs only [go_sem, Nat.reduceLT, Nat.reduceAdd, Nat.reduceEqDiff, reduceIte, Nat.reduceMul, Nat.reduceSub, reduceCtorEq, Int.reduceNe, Int.reduceEq, ne_eq, Nat.reduceLeDiff, Nat.reduceMod, Nat.reduceDiv]; (try simp (disch := omega) only [i64_in, tmodn, tdivn]); exact rfl
      first | (apply VC.condd; (focus (simp -implicitDefEqProofs only [go_sem, Nat.reduceLT, Nat.reduceAdd, Nat.reduceEqDiff, reduceIte, Nat.reduceMul, Nat.reduceSub, reduceCtorEq, Int.reduceNe, Int.reduceEq, ne_eq, Nat.reduceLeDiff, Nat.reduceMod, Nat.reduceDiv]; with_reducible exact rfl))) | (apply VC.condn; (focus (simp -implicitDefEqProofs only [go_sem, Nat.reduceLT, Nat.reduceAdd, Nat.reduceEqDiff, reduceIte, Nat.reduceMul, Nat.reduceSub, reduceCtorEq, Int.reduceNe, Int.reduceEq, ne_eq, Nat.reduceLeDiff, Nat.reduceMod, Nat.reduceDiv]; with_reducible exact rfl))) | (apply VC.condt; (focus (simp -implicitDefEqProofs only [go_sem, Nat.reduceLT, Nat.reduceAdd, Nat.reduceEqDiff, reduceIte, Nat.reduceMul, Nat.reduceSub, reduceCtorEq, Int.reduceNe, Int.reduceEq, ne_eq, Nat.reduceLeDiff, Nat.reduceMod, Nat.reduceDiv]; with_reducible exact rfl))) | (apply VC.condb; (focus (simp -implicitDefEqProofs only [go_sem, Nat.reduceLT, Nat.reduceAdd, Nat.reduceEqDiff, reduceIte, Nat.reduceMul, Nat.reduceSub, reduceCtorEq, Int.reduceNe, Int.reduceEq, ne_eq, Nat.reduceLeDiff, Nat.reduceMod, Nat.reduceDiv]; exact rfl)))
      · intro h; try exact absurd h (by decide)
        all_goals
          apply VC.regt sound_nil [4]; intro K' hK; dsimp only [List.take, List.drop, List.map, strip, stripG]; simp -implicitDefEqProofs only [go_sem, Nat.reduceLT, Nat.reduceAdd, Nat.reduceEqDiff, reduceIte, Nat.reduceMul, Nat.reduceSub, reduceCtorEq, Int.reduceNe, Int.reduceEq, ne_eq, Nat.reduceLeDiff, Nat.reduceMod, Nat.reduceDiv]
          (repeat' first | (refine hK _ ?_; clear hK K') | with_reducible apply And.intro | omega)
          all_goals
            apply VC.at
            · simp -implicitDefEqProofs only [go_sem, Nat.reduceLT, Nat.reduceAdd, Nat.reduceEqDiff, reduceIte, Nat.reduceMul, Nat.reduceSub, reduceCtorEq, Int.reduceNe, Int.reduceEq, ne_eq, Nat.reduceLeDiff, Nat.reduceMod, Nat.reduceDiv]; (try simp (disch := omega) only [i64_in, tmodn, tdivn]); exact rfl
            apply VC.ret
            refine thenK_r ?_
            simp -implicitDefEqProofs only [go_sem, Nat.reduceLT, Nat.reduceAdd, Nat.reduceEqDiff, reduceIte, Nat.reduceMul, Nat.reduceSub, reduceCtorEq, Int.reduceNe, Int.reduceEq, ne_eq, Nat.reduceLeDiff, Nat.reduceMod, Nat.reduceDiv]
            all_goals (first | (rw [decide_eq_false (by intro e; subst e; exact h rfl)]; done) | (rw [decide_eq_true (eq_at 0 a b (by omega) (fun j hj' => hj j (by omega)))]))
      · intro h; try exact absurd h (by decide)
        all_goals
          apply VC.skip
          refine thenK_n ?_
          apply VC.seq
          apply VC.regt sound_nil [0, 1, 5]; intro K' hK; dsimp only [List.take, List.drop, List.map, strip, stripG]; simp -implicitDefEqProofs only [go_sem, Nat.reduceLT, Nat.reduceAdd, Nat.reduceEqDiff, reduceIte, Nat.reduceMul, Nat.reduceSub, reduceCtorEq, Int.reduceNe, Int.reduceEq, ne_eq, Nat.reduceLeDiff, Nat.reduceMod, Nat.reduceDiv]
          (repeat' first | (refine hK _ ?_; clear hK K') | with_reducible apply And.intro | omega)
          all_goals
            apply VC.at
            · simp -implicitDefEqProofs only [go_sem, Nat.reduceLT, Nat.reduceAdd, Nat.reduceEqDiff, reduceIte, Nat.reduceMul, Nat.reduceSub, reduceCtorEq, Int.reduceNe, Int.reduceEq, ne_eq, Nat.reduceLeDiff, Nat.reduceMod, Nat.reduceDiv]; (try simp (disch := omega) only [i64_in, tmodn, tdivn]); exact rfl
            apply VC.block
            refine VC.loopP (ι := Nat) [0, 1] (fun i => [(5, .dat (.int .i64 (i : Int)))]) (fun _ => []) (fun i => i ≤ a.length ∧ ∀ j, j < i → a.getD j 0 = b.getD j 0) (fun i => a.length - i) 0 ?_ ?_ ?_
            · exact ⟨Nat.zero_le _, fun j hj => absurd hj (Nat.not_lt_zero _)⟩
            · refine Ent.to rfl rfl rfl ?_ ?_ <;> (simp -implicitDefEqProofs only [go_sem, Nat.reduceLT, Nat.reduceAdd, Nat.reduceEqDiff, reduceIte, Nat.reduceMul, Nat.reduceSub, reduceCtorEq, Int.reduceNe, Int.reduceEq, ne_eq, Nat.reduceLeDiff, Nat.reduceMod, Nat.reduceDiv]; (try simp only [D.dat.injEq, Vm.Data.int.injEq, true_and, and_true, and_self, eq_self]); (try omega); (try ((repeat' apply And.intro) <;> first | omega | rfl)))
            · rintro k hp; (try dsimp only at hp); obtain ⟨hk, hj⟩ := hp
              apply VC.at
              · simp -implicitDefEqProofs only [go_sem, Nat.reduceLT, Nat.reduceAdd, Nat.reduceEqDiff, reduceIte, Nat.reduceMul, Nat.reduceSub, reduceCtorEq, Int.reduceNe, Int.reduceEq, ne_eq, Nat.reduceLeDiff, Nat.reduceMod, Nat.reduceDiv]; (try simp (disch := omega) only [i64_in, tmodn, tdivn]); exact rfl
              apply VC.seq
              apply VC.regt sound_nil [0, 1, 5, 14]; intro K' hK; dsimp only [List.take, List.drop, List.map, strip, stripG]; simp -implicitDefEqProofs only [go_sem, Nat.reduceLT, Nat.reduceAdd, Nat.reduceEqDiff, reduceIte, Nat.reduceMul, Nat.reduceSub, reduceCtorEq, Int.reduceNe, Int.reduceEq, ne_eq, Nat.reduceLeDiff, Nat.reduceMod, Nat.reduceDiv]
              skip
              (repeat' first | (refine hK _ ?_; clear hK K') | with_reducible apply And.intro | omega)
              all_goals
                apply VC.at
                · simp -implicitDefEqProofs only [go_sem, Nat.reduceLT, Nat.reduceAdd, Nat.reduceEqDiff, reduceIte, Nat.reduceMul, Nat.reduceSub, reduceCtorEq, Int.reduceNe, Int.reduceEq, ne_eq, Nat.reduceLeDiff, Nat.reduceMod, Nat.reduceDiv]; (try simp (disch := omega) only [i64_in, tmodn, tdivn]); exact rfl
                skip
                first | (apply VC.condd; (focus (simp -implicitDefEqProofs only [go_sem, Nat.reduceLT, Nat.reduceAdd, Nat.reduceEqDiff, reduceIte, Nat.reduceMul, Nat.reduceSub, reduceCtorEq, Int.reduceNe, Int.reduceEq, ne_eq, Nat.reduceLeDiff, Nat.reduceMod, Nat.reduceDiv]; with_reducible exact rfl))) | (apply VC.condn; (focus (simp -implicitDefEqProofs only [go_sem, Nat.reduceLT, Nat.reduceAdd, Nat.reduceEqDiff, reduceIte, Nat.reduceMul, Nat.reduceSub, reduceCtorEq, Int.reduceNe, Int.reduceEq, ne_eq, Nat.reduceLeDiff, Nat.reduceMod, Nat.reduceDiv]; with_reducible exact rfl))) | (apply VC.condt; (focus (simp -implicitDefEqProofs only [go_sem, Nat.reduceLT, Nat.reduceAdd, Nat.reduceEqDiff, reduceIte, Nat.reduceMul, Nat.reduceSub, reduceCtorEq, Int.reduceNe, Int.reduceEq, ne_eq, Nat.reduceLeDiff, Nat.reduceMod, Nat.reduceDiv]; with_reducible exact rfl))) | (apply VC.condb; (focus (simp -implicitDefEqProofs only [go_sem, Nat.reduceLT, Nat.reduceAdd, Nat.reduceEqDiff, reduceIte, Nat.reduceMul, Nat.reduceSub, reduceCtorEq, Int.reduceNe, Int.reduceEq, ne_eq, Nat.reduceLeDiff, Nat.reduceMod, Nat.reduceDiv]; exact rfl)))
                · intro h; try exact absurd h (by decide)
                  all_goals
                    apply VC.skip
                    refine thenK_n ?_
                    apply VC.seq
                    apply VC.block
                    have gx : k < a.length := by omega
                    have gy : k < b.length := by omega
                    apply VC.draw1 sound_nil (by kernel_rfl) 9 (by kernel_rfl) (by kernel_rfl) [0, 1, 5, 25]; intro L hL; dsimp only [List.take, List.drop, List.map, strip, stripG]; simp -implicitDefEqProofs only [go_sem, Nat.reduceLT, Nat.reduceAdd, Nat.reduceEqDiff, reduceIte, Nat.reduceMul, Nat.reduceSub, reduceCtorEq, Int.reduceNe, Int.reduceEq, ne_eq, Nat.reduceLeDiff, Nat.reduceMod, Nat.reduceDiv, numsD_at gx, numsD_at gy]
                    (repeat' first | (refine hL _ ?_; intro K' hK; dsimp only [List.drop, List.map, strip, stripG]; simp -implicitDefEqProofs only [go_sem, Nat.reduceLT, Nat.reduceAdd, Nat.reduceEqDiff, reduceIte, Nat.reduceMul, Nat.reduceSub, reduceCtorEq, Int.reduceNe, Int.reduceEq, ne_eq, Nat.reduceLeDiff, Nat.reduceMod, Nat.reduceDiv, numsD_at gx, numsD_at gy]; refine hK _ ?_; clear hK K' hL L) | with_reducible apply And.intro | omega)
                    all_goals
                      apply VC.at
                      · simp -implicitDefEqProofs only [go_sem, Nat.reduceLT, Nat.reduceAdd, Nat.reduceEqDiff, reduceIte, Nat.reduceMul, Nat.reduceSub, reduceCtorEq, Int.reduceNe, Int.reduceEq, ne_eq, Nat.reduceLeDiff, Nat.reduceMod, Nat.reduceDiv, numsD_at gx, numsD_at gy]; (try simp (disch := omega) only [i64_in, tmodn, tdivn]); exact rfl
                      first | (apply VC.condd; (focus (simp -implicitDefEqProofs only [go_sem, Nat.reduceLT, Nat.reduceAdd, Nat.reduceEqDiff, reduceIte, Nat.reduceMul, Nat.reduceSub, reduceCtorEq, Int.reduceNe, Int.reduceEq, ne_eq, Nat.reduceLeDiff, Nat.reduceMod, Nat.reduceDiv]; with_reducible exact rfl))) | (apply VC.condn; (focus (simp -implicitDefEqProofs only [go_sem, Nat.reduceLT, Nat.reduceAdd, Nat.reduceEqDiff, reduceIte, Nat.reduceMul, Nat.reduceSub, reduceCtorEq, Int.reduceNe, Int.reduceEq, ne_eq, Nat.reduceLeDiff, Nat.reduceMod, Nat.reduceDiv]; with_reducible exact rfl))) | (apply VC.condt; (focus (simp -implicitDefEqProofs only [go_sem, Nat.reduceLT, Nat.reduceAdd, Nat.reduceEqDiff, reduceIte, Nat.reduceMul, Nat.reduceSub, reduceCtorEq, Int.reduceNe, Int.reduceEq, ne_eq, Nat.reduceLeDiff, Nat.reduceMod, Nat.reduceDiv]; with_reducible exact rfl))) | (apply VC.condb; (focus (simp -implicitDefEqProofs only [go_sem, Nat.reduceLT, Nat.reduceAdd, Nat.reduceEqDiff, reduceIte, Nat.reduceMul, Nat.reduceSub, reduceCtorEq, Int.reduceNe, Int.reduceEq, ne_eq, Nat.reduceLeDiff, Nat.reduceMod, Nat.reduceDiv]; exact rfl)))
                      · intro h; try exact absurd h (by decide)
                        all_goals
                          apply VC.regt sound_nil [4]; intro K' hK; dsimp only [List.take, List.drop, List.map, strip, stripG]; simp -implicitDefEqProofs only [go_sem, Nat.reduceLT, Nat.reduceAdd, Nat.reduceEqDiff, reduceIte, Nat.reduceMul, Nat.reduceSub, reduceCtorEq, Int.reduceNe, Int.reduceEq, ne_eq, Nat.reduceLeDiff, Nat.reduceMod, Nat.reduceDiv]
                          (repeat' first | (refine hK _ ?_; clear hK K') | with_reducible apply And.intro | omega)
                          all_goals
                            apply VC.at
                            · simp -implicitDefEqProofs only [go_sem, Nat.reduceLT, Nat.reduceAdd, Nat.reduceEqDiff, reduceIte, Nat.reduceMul, Nat.reduceSub, reduceCtorEq, Int.reduceNe, Int.reduceEq, ne_eq, Nat.reduceLeDiff, Nat.reduceMod, Nat.reduceDiv]; (try simp (disch := omega) only [i64_in, tmodn, tdivn]); exact rfl
                            apply VC.ret
                            refine blockK_r ?_
                            refine thenK_r ?_
                            refine thenK_r ?_
                            refine blockK_r ?_
                            refine thenK_r ?_
                            simp -implicitDefEqProofs only [go_sem, Nat.reduceLT, Nat.reduceAdd, Nat.reduceEqDiff, reduceIte, Nat.reduceMul, Nat.reduceSub, reduceCtorEq, Int.reduceNe, Int.reduceEq, ne_eq, Nat.reduceLeDiff, Nat.reduceMod, Nat.reduceDiv]
                            all_goals (first | (rw [decide_eq_false (by intro e; subst e; exact h rfl)]; done) | (rw [decide_eq_true (eq_at 0 a b (by omega) (fun j hj' => hj j (by omega)))]))
                      · intro h; try exact absurd h (by decide)
                        all_goals
                          apply VC.skip
                          refine blockK_n ?_
                          refine thenK_n ?_
                          apply VC.regLast sound_nil; intro K' hK; dsimp only [List.take, List.drop, List.map, strip, stripG]; simp -implicitDefEqProofs only [go_sem, Nat.reduceLT, Nat.reduceAdd, Nat.reduceEqDiff, reduceIte, Nat.reduceMul, Nat.reduceSub, reduceCtorEq, Int.reduceNe, Int.reduceEq, ne_eq, Nat.reduceLeDiff, Nat.reduceMod, Nat.reduceDiv]
                          (repeat' first | (refine hK _ ?_; clear hK K') | with_reducible apply And.intro | omega)
                          all_goals
                            refine thenK_n ?_
                            refine ⟨(k + 1), ?_, Ent.to rfl rfl rfl ?_ ?_, ?_⟩
                            · refine ⟨by omega, fun j h' => ?_⟩
                              rcases Nat.lt_or_ge j k with h2 | h2
                              · exact hj j h2
                              · obtain rfl : j = k := by omega
                                omega
                            · simp -implicitDefEqProofs only [go_sem, Nat.reduceLT, Nat.reduceAdd, Nat.reduceEqDiff, reduceIte, Nat.reduceMul, Nat.reduceSub, reduceCtorEq, Int.reduceNe, Int.reduceEq, ne_eq, Nat.reduceLeDiff, Nat.reduceMod, Nat.reduceDiv]; (try simp (disch := omega) only [i64_in, tmodn, tdivn]); (try simp only [D.dat.injEq, Vm.Data.int.injEq, true_and, and_true, and_self, eq_self]); (try omega); (try ((repeat' apply And.intro) <;> first | omega | rfl))
                            · simp -implicitDefEqProofs only [go_sem, Nat.reduceLT, Nat.reduceAdd, Nat.reduceEqDiff, reduceIte, Nat.reduceMul, Nat.reduceSub, reduceCtorEq, Int.reduceNe, Int.reduceEq, ne_eq, Nat.reduceLeDiff, Nat.reduceMod, Nat.reduceDiv]; (try simp (disch := omega) only [i64_in, tmodn, tdivn]); (try simp only [D.dat.injEq, Vm.Data.int.injEq, true_and, and_true, and_self, eq_self]); (try omega); (try ((repeat' apply And.intro) <;> first | omega | rfl))
                            · omega
                · intro h; try exact absurd h (by decide)
                  all_goals
                    apply VC.exit
                    refine thenK_e ?_
                    refine thenK_e ?_
                    refine blockK_e ?_
                    refine thenK_n ?_
                    apply VC.regt sound_nil [4]; intro K' hK; dsimp only [List.take, List.drop, List.map, strip, stripG]; simp -implicitDefEqProofs only [go_sem, Nat.reduceLT, Nat.reduceAdd, Nat.reduceEqDiff, reduceIte, Nat.reduceMul, Nat.reduceSub, reduceCtorEq, Int.reduceNe, Int.reduceEq, ne_eq, Nat.reduceLeDiff, Nat.reduceMod, Nat.reduceDiv]
                    (repeat' first | (refine hK _ ?_; clear hK K') | with_reducible apply And.intro | omega)
                    all_goals
                      apply VC.at
                      · simp -implicitDefEqProofs only [go_sem, Nat.reduceLT, Nat.reduceAdd, Nat.reduceEqDiff, reduceIte, Nat.reduceMul, Nat.reduceSub, reduceCtorEq, Int.reduceNe, Int.reduceEq, ne_eq, Nat.reduceLeDiff, Nat.reduceMod, Nat.reduceDiv]; (try simp (disch := omega) only [i64_in, tmodn, tdivn]); exact rfl
                      apply VC.ret
                      simp -implicitDefEqProofs only [go_sem, Nat.reduceLT, Nat.reduceAdd, Nat.reduceEqDiff, reduceIte, Nat.reduceMul, Nat.reduceSub, reduceCtorEq, Int.reduceNe, Int.reduceEq, ne_eq, Nat.reduceLeDiff, Nat.reduceMod, Nat.reduceDiv]
                      all_goals (first | (rw [decide_eq_false (by intro e; subst e; exact h rfl)]; done) | (rw [decide_eq_true (eq_at 0 a b (by omega) (fun j hj' => hj j (by omega)))]))
def beqA (x : List UInt8 × List UInt8) : List Vm.Data := let (a, b) := x; [.lst (bytesD a), .lst (bytesD b)]
noncomputable def beqF : PFn := PFn.of beqA (fun (a, b) => a.length ≤ 4611686018427387904) (fun (a, b) => [.bool (decide (a = b))])
theorem beq_inj (x y : List UInt8 × List UInt8) (h : beqA x = beqA y) : x = y := by
  simpa [beqA, Prod.ext_iff, numsD_inj, bytesD_inj, Vm.Data.lst.injEq, Int.natCast_inj] using h
@[go_sem] theorem beq_pre (a : List UInt8) (b : List UInt8) : beqF.pre [.lst (bytesD a), .lst (bytesD b)] = (a.length ≤ 4611686018427387904) := PFn.of_pre beq_inj (a, b)
@[go_sem] theorem beq_res (a : List UInt8) (b : List UInt8) : beqF.res [.lst (bytesD a), .lst (bytesD b)] = [.bool (decide (a = b))] := PFn.of_res beq_inj (a, b)
theorem beq_ok : Pure E 35 beqF := by
  apply Pure.of_body (rs := [.tmp 4]) (n := 26) Tryd.func35 rfl rfl rfl
  intro ds hds
  obtain ⟨⟨a, b⟩, rfl, hds⟩ := hds
  (try dsimp only at hds)
  rw [show beqF.res (beqA (a, b)) = [.bool (decide (a = b))] from beq_res a b]
  skip
  refine ⟨Nat.le_of_ble_eq_true rfl, ?_⟩
  show VC E none _ (pureSt 26 [.lst (bytesD a), .lst (bytesD b)]) _
  apply VC.regt sound_nil [0, 1]; intro K' hK; dsimp only [List.take, List.drop, List.map, strip, stripG]; simp -implicitDefEqProofs only [go_sem, Nat.reduceLT, Nat.reduceAdd, Nat.reduceEqDiff, reduceIte, Nat.reduceMul, Nat.reduceSub, reduceCtorEq, Int.reduceNe, Int.reduceEq, ne_eq, Nat.reduceLeDiff, Nat.reduceMod, Nat.reduceDiv]
  (repeat' first | (refine hK _ ?_; clear hK K') | with_reducible apply And.intro | omega)
  all_goals
    apply VC.at
    · simp -implicitDefEqProofs only [go_sem, Nat.reduceLT, Nat.reduceAdd, Nat.reduceEqDiff, reduceIte, Nat.reduceMul, Nat.reduceSub, reduceCtorEq, Int.reduceNe, Int.reduceEq, ne_eq, Nat.reduceLeDiff, Nat.reduceMod, Nat.reduceDiv]; (try simp (disch := omega) only [i64_in, tmodn, tdivn]); exact rfl
    apply VC.seq
    apply VC.regt sound_nil [0, 1, 10]; intro K' hK; dsimp only [List.take, List.drop, List.map, strip, stripG]; simp -implicitDefEqProofs only [go_sem, Nat.reduceLT, Nat.reduceAdd, Nat.reduceEqDiff, reduceIte, Nat.reduceMul, Nat.reduceSub, reduceCtorEq, Int.reduceNe, Int.reduceEq, ne_eq, Nat.reduceLeDiff, Nat.reduceMod, Nat.reduceDiv]
    (repeat' first | (refine hK _ ?_; clear hK K') | with_reducible apply And.intro | omega)
    all_goals
      apply VC.at
      · simp -implicitDefEqProofs only [go_sem, Nat.reduceLT, Nat.reduceAdd, Nat.reduceEqDiff, reduceIte, Nat.reduceMul, Nat.reduceSub, reduceCtorEq, Int.reduceNe, Int.reduceEq, ne_eq, Nat.reduceLeDiff, Nat.reduceMod, Nat.reduceDiv]; (try simp (disch := omega) only [i64_in, tmodn, tdivn]); exact rfl
      first | (apply VC.condd; (focus (simp -implicitDefEqProofs only [go_sem, Nat.reduceLT, Nat.reduceAdd, Nat.reduceEqDiff, reduceIte, Nat.reduceMul, Nat.reduceSub, reduceCtorEq, Int.reduceNe, Int.reduceEq, ne_eq, Nat.reduceLeDiff, Nat.reduceMod, Nat.reduceDiv]; with_reducible exact rfl))) | (apply VC.condn; (focus (simp -implicitDefEqProofs only [go_sem, Nat.reduceLT, Nat.reduceAdd, Nat.reduceEqDiff, reduceIte, Nat.reduceMul, Nat.reduceSub, reduceCtorEq, Int.reduceNe, Int.reduceEq, ne_eq, Nat.reduceLeDiff, Nat.reduceMod, Nat.reduceDiv]; with_reducible exact rfl))) | (apply VC.condt; (focus (simp -implicitDefEqProofs only [go_sem, Nat.reduceLT, Nat.reduceAdd, Nat.reduceEqDiff, reduceIte, Nat.reduceMul, Nat.reduceSub, reduceCtorEq, Int.reduceNe, Int.reduceEq, ne_eq, Nat.reduceLeDiff, Nat.reduceMod, Nat.reduceDiv]; with_reducible exact rfl))) | (apply VC.condb; (focus (simp -implicitDefEqProofs only [go_sem, Nat.reduceLT, Nat.reduceAdd, Nat.reduceEqDiff, reduceIte, Nat.reduceMul, Nat.reduceSub, reduceCtorEq, Int.reduceNe, Int.reduceEq, ne_eq, Nat.reduceLeDiff, Nat.reduceMod, Nat.reduceDiv]; exact rfl)))
      · intro h; try exact absurd h (by decide)
        all_goals
          apply VC.regt sound_nil [4]; intro K' hK; dsimp only [List.take, List.drop, List.map, strip, stripG]; simp -implicitDefEqProofs only [go_sem, Nat.reduceLT, Nat.reduceAdd, Nat.reduceEqDiff, reduceIte, Nat.reduceMul, Nat.reduceSub, reduceCtorEq, Int.reduceNe, Int.reduceEq, ne_eq, Nat.reduceLeDiff, Nat.reduceMod, Nat.reduceDiv]
          (repeat' first | (refine hK _ ?_; clear hK K') | with_reducible apply And.intro | omega)
          all_goals
            apply VC.at
            · simp -implicitDefEqProofs only [go_sem, Nat.reduceLT, Nat.reduceAdd, Nat.reduceEqDiff, reduceIte, Nat.reduceMul, Nat.reduceSub, reduceCtorEq, Int.reduceNe, Int.reduceEq, ne_eq, Nat.reduceLeDiff, Nat.reduceMod, Nat.reduceDiv]; (try simp (disch := omega) only [i64_in, tmodn, tdivn]); exact rfl
            apply VC.ret
            refine thenK_r ?_
            simp -implicitDefEqProofs only [go_sem, Nat.reduceLT, Nat.reduceAdd, Nat.reduceEqDiff, reduceIte, Nat.reduceMul, Nat.reduceSub, reduceCtorEq, Int.reduceNe, Int.reduceEq, ne_eq, Nat.reduceLeDiff, Nat.reduceMod, Nat.reduceDiv]
            all_goals (first | (rw [decide_eq_false (by intro e; subst e; exact h rfl)]; done) | (rw [decide_eq_true (eq_at 0 a b (by omega) (fun j hj' => hj j (by omega)))]))
      · intro h; try exact absurd h (by decide)
        all_goals
          apply VC.skip
          refine thenK_n ?_
          apply VC.seq
          apply VC.regt sound_nil [0, 1, 12, 13]; intro K' hK; dsimp only [List.take, List.drop, List.map, strip, stripG]; simp -implicitDefEqProofs only [go_sem, Nat.reduceLT, Nat.reduceAdd, Nat.reduceEqDiff, reduceIte, Nat.reduceMul, Nat.reduceSub, reduceCtorEq, Int.reduceNe, Int.reduceEq, ne_eq, Nat.reduceLeDiff, Nat.reduceMod, Nat.reduceDiv]
          (repeat' first | (refine hK _ ?_; clear hK K') | with_reducible apply And.intro | omega)
          all_goals
            apply VC.at
            · simp -implicitDefEqProofs only [go_sem, Nat.reduceLT, Nat.reduceAdd, Nat.reduceEqDiff, reduceIte, Nat.reduceMul, Nat.reduceSub, reduceCtorEq, Int.reduceNe, Int.reduceEq, ne_eq, Nat.reduceLeDiff, Nat.reduceMod, Nat.reduceDiv]; (try simp (disch := omega) only [i64_in, tmodn, tdivn]); exact rfl
            apply VC.block
            refine VC.loopP (ι := Nat) [0, 1, 11, 12] (fun i => [(13, .dat (.int .i64 (i : Int)))]) (fun _ => []) (fun i => i ≤ a.length ∧ ∀ j, j < i → a.getD j 0 = b.getD j 0) (fun i => a.length - i) 0 ?_ ?_ ?_
            · exact ⟨Nat.zero_le _, fun j hj => absurd hj (Nat.not_lt_zero _)⟩
            · refine Ent.to rfl rfl rfl ?_ ?_ <;> (simp -implicitDefEqProofs only [go_sem, Nat.reduceLT, Nat.reduceAdd, Nat.reduceEqDiff, reduceIte, Nat.reduceMul, Nat.reduceSub, reduceCtorEq, Int.reduceNe, Int.reduceEq, ne_eq, Nat.reduceLeDiff, Nat.reduceMod, Nat.reduceDiv]; (try simp only [D.dat.injEq, Vm.Data.int.injEq, true_and, and_true, and_self, eq_self]); (try omega); (try ((repeat' apply And.intro) <;> first | omega | rfl)))
            · rintro k hp; (try dsimp only at hp); obtain ⟨hk, hj⟩ := hp
              apply VC.at
              · simp -implicitDefEqProofs only [go_sem, Nat.reduceLT, Nat.reduceAdd, Nat.reduceEqDiff, reduceIte, Nat.reduceMul, Nat.reduceSub, reduceCtorEq, Int.reduceNe, Int.reduceEq, ne_eq, Nat.reduceLeDiff, Nat.reduceMod, Nat.reduceDiv]; (try simp (disch := omega) only [i64_in, tmodn, tdivn]); exact rfl
              apply VC.regt sound_nil [0, 1, 11, 12, 13, 14]; intro K' hK; dsimp only [List.take, List.drop, List.map, strip, stripG]; simp -implicitDefEqProofs only [go_sem, Nat.reduceLT, Nat.reduceAdd, Nat.reduceEqDiff, reduceIte, Nat.reduceMul, Nat.reduceSub, reduceCtorEq, Int.reduceNe, Int.reduceEq, ne_eq, Nat.reduceLeDiff, Nat.reduceMod, Nat.reduceDiv]
              (repeat' first | (refine hK _ ?_; clear hK K') | with_reducible apply And.intro | omega)
              all_goals
                apply VC.at
                · simp -implicitDefEqProofs only [go_sem, Nat.reduceLT, Nat.reduceAdd, Nat.reduceEqDiff, reduceIte, Nat.reduceMul, Nat.reduceSub, reduceCtorEq, Int.reduceNe, Int.reduceEq, ne_eq, Nat.reduceLeDiff, Nat.reduceMod, Nat.reduceDiv]; (try simp (disch := omega) only [i64_in, tmodn, tdivn]); exact rfl
                apply VC.seq
                first | (apply VC.condd; (focus (simp -implicitDefEqProofs only [go_sem, Nat.reduceLT, Nat.reduceAdd, Nat.reduceEqDiff, reduceIte, Nat.reduceMul, Nat.reduceSub, reduceCtorEq, Int.reduceNe, Int.reduceEq, ne_eq, Nat.reduceLeDiff, Nat.reduceMod, Nat.reduceDiv]; with_reducible exact rfl))) | (apply VC.condn; (focus (simp -implicitDefEqProofs only [go_sem, Nat.reduceLT, Nat.reduceAdd, Nat.reduceEqDiff, reduceIte, Nat.reduceMul, Nat.reduceSub, reduceCtorEq, Int.reduceNe, Int.reduceEq, ne_eq, Nat.reduceLeDiff, Nat.reduceMod, Nat.reduceDiv]; with_reducible exact rfl))) | (apply VC.condt; (focus (simp -implicitDefEqProofs only [go_sem, Nat.reduceLT, Nat.reduceAdd, Nat.reduceEqDiff, reduceIte, Nat.reduceMul, Nat.reduceSub, reduceCtorEq, Int.reduceNe, Int.reduceEq, ne_eq, Nat.reduceLeDiff, Nat.reduceMod, Nat.reduceDiv]; with_reducible exact rfl))) | (apply VC.condb; (focus (simp -implicitDefEqProofs only [go_sem, Nat.reduceLT, Nat.reduceAdd, Nat.reduceEqDiff, reduceIte, Nat.reduceMul, Nat.reduceSub, reduceCtorEq, Int.reduceNe, Int.reduceEq, ne_eq, Nat.reduceLeDiff, Nat.reduceMod, Nat.reduceDiv]; exact rfl)))
                · intro h; try exact absurd h (by decide)
                  all_goals
                    apply VC.skip
                    refine thenK_n ?_
                    apply VC.seq
                    apply VC.block
                    apply VC.regt sound_nil [0, 1, 5, 11, 12, 13]; intro K' hK; dsimp only [List.take, List.drop, List.map, strip, stripG]; simp -implicitDefEqProofs only [go_sem, Nat.reduceLT, Nat.reduceAdd, Nat.reduceEqDiff, reduceIte, Nat.reduceMul, Nat.reduceSub, reduceCtorEq, Int.reduceNe, Int.reduceEq, ne_eq, Nat.reduceLeDiff, Nat.reduceMod, Nat.reduceDiv]
                    (repeat' first | (refine hK _ ?_; clear hK K') | with_reducible apply And.intro | omega)
                    all_goals
                      apply VC.at
                      · simp -implicitDefEqProofs only [go_sem, Nat.reduceLT, Nat.reduceAdd, Nat.reduceEqDiff, reduceIte, Nat.reduceMul, Nat.reduceSub, reduceCtorEq, Int.reduceNe, Int.reduceEq, ne_eq, Nat.reduceLeDiff, Nat.reduceMod, Nat.reduceDiv]; (try simp (disch := omega) only [i64_in, tmodn, tdivn]); exact rfl
                      have gx : k < a.length := by omega
                      have gy : k < b.length := by omega
                      apply VC.draw1 sound_nil (by kernel_rfl) 9 (by kernel_rfl) (by kernel_rfl) [0, 1, 11, 12, 13, 24]; intro L hL; dsimp only [List.take, List.drop, List.map, strip, stripG]; simp -implicitDefEqProofs only [go_sem, Nat.reduceLT, Nat.reduceAdd, Nat.reduceEqDiff, reduceIte, Nat.reduceMul, Nat.reduceSub, reduceCtorEq, Int.reduceNe, Int.reduceEq, ne_eq, Nat.reduceLeDiff, Nat.reduceMod, Nat.reduceDiv, bytesD_at gx, bytesD_at gy]
                      (repeat' first | (refine hL _ ?_; intro K' hK; dsimp only [List.drop, List.map, strip, stripG]; simp -implicitDefEqProofs only [go_sem, Nat.reduceLT, Nat.reduceAdd, Nat.reduceEqDiff, reduceIte, Nat.reduceMul, Nat.reduceSub, reduceCtorEq, Int.reduceNe, Int.reduceEq, ne_eq, Nat.reduceLeDiff, Nat.reduceMod, Nat.reduceDiv, bytesD_at gx, bytesD_at gy]; refine hK _ ?_; clear hK K' hL L) | with_reducible apply And.intro | omega)
                      all_goals
                        apply VC.at
                        · simp -implicitDefEqProofs only [go_sem, Nat.reduceLT, Nat.reduceAdd, Nat.reduceEqDiff, reduceIte, Nat.reduceMul, Nat.reduceSub, reduceCtorEq, Int.reduceNe, Int.reduceEq, ne_eq, Nat.reduceLeDiff, Nat.reduceMod, Nat.reduceDiv, bytesD_at gx, bytesD_at gy]; (try simp (disch := omega) only [i64_in, tmodn, tdivn]); exact rfl
                        first | (apply VC.condd; (focus (simp -implicitDefEqProofs only [go_sem, Nat.reduceLT, Nat.reduceAdd, Nat.reduceEqDiff, reduceIte, Nat.reduceMul, Nat.reduceSub, reduceCtorEq, Int.reduceNe, Int.reduceEq, ne_eq, Nat.reduceLeDiff, Nat.reduceMod, Nat.reduceDiv]; with_reducible exact rfl))) | (apply VC.condn; (focus (simp -implicitDefEqProofs only [go_sem, Nat.reduceLT, Nat.reduceAdd, Nat.reduceEqDiff, reduceIte, Nat.reduceMul, Nat.reduceSub, reduceCtorEq, Int.reduceNe, Int.reduceEq, ne_eq, Nat.reduceLeDiff, Nat.reduceMod, Nat.reduceDiv]; with_reducible exact rfl))) | (apply VC.condt; (focus (simp -implicitDefEqProofs only [go_sem, Nat.reduceLT, Nat.reduceAdd, Nat.reduceEqDiff, reduceIte, Nat.reduceMul, Nat.reduceSub, reduceCtorEq, Int.reduceNe, Int.reduceEq, ne_eq, Nat.reduceLeDiff, Nat.reduceMod, Nat.reduceDiv]; with_reducible exact rfl))) | (apply VC.condb; (focus (simp -implicitDefEqProofs only [go_sem, Nat.reduceLT, Nat.reduceAdd, Nat.reduceEqDiff, reduceIte, Nat.reduceMul, Nat.reduceSub, reduceCtorEq, Int.reduceNe, Int.reduceEq, ne_eq, Nat.reduceLeDiff, Nat.reduceMod, Nat.reduceDiv]; exact rfl)))
                        · intro h; try exact absurd h (by decide)
                          all_goals
                            apply VC.regt sound_nil [4]; intro K' hK; dsimp only [List.take, List.drop, List.map, strip, stripG]; simp -implicitDefEqProofs only [go_sem, Nat.reduceLT, Nat.reduceAdd, Nat.reduceEqDiff, reduceIte, Nat.reduceMul, Nat.reduceSub, reduceCtorEq, Int.reduceNe, Int.reduceEq, ne_eq, Nat.reduceLeDiff, Nat.reduceMod, Nat.reduceDiv]
                            (repeat' first | (refine hK _ ?_; clear hK K') | with_reducible apply And.intro | omega)
                            all_goals
                              apply VC.at
                              · simp -implicitDefEqProofs only [go_sem, Nat.reduceLT, Nat.reduceAdd, Nat.reduceEqDiff, reduceIte, Nat.reduceMul, Nat.reduceSub, reduceCtorEq, Int.reduceNe, Int.reduceEq, ne_eq, Nat.reduceLeDiff, Nat.reduceMod, Nat.reduceDiv]; (try simp (disch := omega) only [i64_in, tmodn, tdivn]); exact rfl
                              apply VC.ret
                              refine blockK_r ?_
                              refine thenK_r ?_
                              refine thenK_r ?_
                              refine blockK_r ?_
                              refine thenK_r ?_
                              simp -implicitDefEqProofs only [go_sem, Nat.reduceLT, Nat.reduceAdd, Nat.reduceEqDiff, reduceIte, Nat.reduceMul, Nat.reduceSub, reduceCtorEq, Int.reduceNe, Int.reduceEq, ne_eq, Nat.reduceLeDiff, Nat.reduceMod, Nat.reduceDiv]
                              all_goals (first | (rw [decide_eq_false (by intro e; subst e; exact h rfl)]; done) | (rw [decide_eq_true (eq_at 0 a b (by omega) (fun j hj' => hj j (by omega)))]))
                        · intro h; try exact absurd h (by decide)
                          all_goals
                            apply VC.skip
                            refine blockK_n ?_
                            refine thenK_n ?_
                            apply VC.regLast sound_nil; intro K' hK; dsimp only [List.take, List.drop, List.map, strip, stripG]; simp -implicitDefEqProofs only [go_sem, Nat.reduceLT, Nat.reduceAdd, Nat.reduceEqDiff, reduceIte, Nat.reduceMul, Nat.reduceSub, reduceCtorEq, Int.reduceNe, Int.reduceEq, ne_eq, Nat.reduceLeDiff, Nat.reduceMod, Nat.reduceDiv]
                            (repeat' first | (refine hK _ ?_; clear hK K') | with_reducible apply And.intro | omega)
                            all_goals
                              refine thenK_n ?_
                              refine ⟨(k + 1), ?_, Ent.to rfl rfl rfl ?_ ?_, ?_⟩
                              · refine ⟨by omega, fun j h' => ?_⟩
                                rcases Nat.lt_or_ge j k with h2 | h2
                                · exact hj j h2
                                · obtain rfl : j = k := by omega
                                  exact UInt8.toNat_inj.1 (by omega)
                              · simp -implicitDefEqProofs only [go_sem, Nat.reduceLT, Nat.reduceAdd, Nat.reduceEqDiff, reduceIte, Nat.reduceMul, Nat.reduceSub, reduceCtorEq, Int.reduceNe, Int.reduceEq, ne_eq, Nat.reduceLeDiff, Nat.reduceMod, Nat.reduceDiv]; (try simp (disch := omega) only [i64_in, tmodn, tdivn]); (try simp only [D.dat.injEq, Vm.Data.int.injEq, true_and, and_true, and_self, eq_self]); (try omega); (try ((repeat' apply And.intro) <;> first | omega | rfl))
                              · simp -implicitDefEqProofs only [go_sem, Nat.reduceLT, Nat.reduceAdd, Nat.reduceEqDiff, reduceIte, Nat.reduceMul, Nat.reduceSub, reduceCtorEq, Int.reduceNe, Int.reduceEq, ne_eq, Nat.reduceLeDiff, Nat.reduceMod, Nat.reduceDiv]; (try simp (disch := omega) only [i64_in, tmodn, tdivn]); (try simp only [D.dat.injEq, Vm.Data.int.injEq, true_and, and_true, and_self, eq_self]); (try omega); (try ((repeat' apply And.intro) <;> first | omega | rfl))
                              · omega
                · intro h; try exact absurd h (by decide)
                  all_goals
                    apply VC.exit
                    refine thenK_e ?_
                    refine thenK_e ?_
                    refine blockK_e ?_
                    refine thenK_n ?_
                    apply VC.regt sound_nil [4]; intro K' hK; dsimp only [List.take, List.drop, List.map, strip, stripG]; simp -implicitDefEqProofs only [go_sem, Nat.reduceLT, Nat.reduceAdd, Nat.reduceEqDiff, reduceIte, Nat.reduceMul, Nat.reduceSub, reduceCtorEq, Int.reduceNe, Int.reduceEq, ne_eq, Nat.reduceLeDiff, Nat.reduceMod, Nat.reduceDiv]
                    (repeat' first | (refine hK _ ?_; clear hK K') | with_reducible apply And.intro | omega)
                    all_goals
                      apply VC.at
                      · simp -implicitDefEqProofs only [go_sem, Nat.reduceLT, Nat.reduceAdd, Nat.reduceEqDiff, reduceIte, Nat.reduceMul, Nat.reduceSub, reduceCtorEq, Int.reduceNe, Int.reduceEq, ne_eq, Nat.reduceLeDiff, Nat.reduceMod, Nat.reduceDiv]; (try simp (disch := omega) only [i64_in, tmodn, tdivn]); exact rfl
                      apply VC.ret
                      simp -implicitDefEqProofs only [go_sem, Nat.reduceLT, Nat.reduceAdd, Nat.reduceEqDiff, reduceIte, Nat.reduceMul, Nat.reduceSub, reduceCtorEq, Int.reduceNe, Int.reduceEq, ne_eq, Nat.reduceLeDiff, Nat.reduceMod, Nat.reduceDiv]
                      all_goals (first | (rw [decide_eq_false (by intro e; subst e; exact h rfl)]; done) | (rw [decide_eq_true (eq_at 0 a b (by omega) (fun j hj' => hj j (by omega)))]))
def mx : List Nat → Nat
  | [] => 0
  | x :: r => max x (mx r)
theorem mx_append (l : List Nat) (x : Nat) : mx (l ++ [x]) = max (mx l) x := by
  induction l with
  | nil => simp [mx]
  | cons a l ih => simp only [List.cons_append, mx, ih]; omega
theorem mx_one (a : List Nat) (h : 1 ≤ a.length) : mx (a.take 1) = a.getD 0 0 := by
  cases a with
  | nil => simp at h
  | cons x r => simp [mx]
theorem mx_succ (a : List Nat) (k : Nat) (h : k < a.length) : mx (a.take (k + 1)) = max (mx (a.take k)) (a.getD k 0) := by
  rw [List.take_add_one, List.getElem?_eq_getElem h, Option.toList_some, mx_append]
  simp [List.getD_eq_getElem?_getD, List.getElem?_eq_getElem h]
theorem mx_all (l : List Nat) (m : Nat) : mx l ≤ m ↔ ∀ x ∈ l, x ≤ m := by
  induction l with
  | nil => simp [mx]
  | cons a l ih => simp only [mx, List.mem_cons, forall_eq_or_imp, ← ih]; omega
def maxA (a : List Nat) : List Vm.Data := [.lst (numsD a)]
noncomputable def maxF : PFn := PFn.of maxA (fun a => 1 ≤ a.length ∧ a.length ≤ 4611686018427387904) (fun a => [.int .u64 ((mx a : Nat) : Int)])
theorem max_inj (x y : List Nat) (h : maxA x = maxA y) : x = y := by
  simpa [maxA, Prod.ext_iff, numsD_inj, bytesD_inj, Vm.Data.lst.injEq, Int.natCast_inj] using h
@[go_sem] theorem max_pre (a : List Nat) : maxF.pre [.lst (numsD a)] = (1 ≤ a.length ∧ a.length ≤ 4611686018427387904) := PFn.of_pre max_inj a
@[go_sem] theorem max_res (a : List Nat) : maxF.res [.lst (numsD a)] = [.int .u64 ((mx a : Nat) : Int)] := PFn.of_res max_inj a
theorem max_ok : Pure E 32 maxF := by
  apply Pure.of_body (rs := [.tmp 2]) (n := 25) Tryd.func32 rfl rfl rfl
  intro ds hds
  obtain ⟨a, rfl, hds⟩ := hds
  (try dsimp only at hds)
  rw [show maxF.res (maxA a) = [.int .u64 ((mx a : Nat) : Int)] from max_res a]
  obtain ⟨hl, hl'⟩ := hds; have gx0 : 0 < a.length := by omega
  refine ⟨Nat.le_of_ble_eq_true rfl, ?_⟩
  show VC E none _ (pureSt 25 [.lst (numsD a)]) _
  apply VC.regt sound_nil [0]; intro K' hK; dsimp only [List.take, List.drop, List.map, strip, stripG]; simp -implicitDefEqProofs only [go_sem, Nat.reduceLT, Nat.reduceAdd, Nat.reduceEqDiff, reduceIte, Nat.reduceMul, Nat.reduceSub, reduceCtorEq, Int.reduceNe, Int.reduceEq, ne_eq, Nat.reduceLeDiff, Nat.reduceMod, Nat.reduceDiv]
  (repeat' first | (refine hK _ ?_; clear hK K') | with_reducible apply And.intro | omega)
  all_goals
    apply VC.at
    · simp -implicitDefEqProofs only [go_sem, Nat.reduceLT, Nat.reduceAdd, Nat.reduceEqDiff, reduceIte, Nat.reduceMul, Nat.reduceSub, reduceCtorEq, Int.reduceNe, Int.reduceEq, ne_eq, Nat.reduceLeDiff, Nat.reduceMod, Nat.reduceDiv]; (try simp (disch := omega) only [i64_in, tmodn, tdivn]); exact rfl
    apply VC.seq
    apply VC.regt sound_nil [0, 7]; intro K' hK; dsimp only [List.take, List.drop, List.map, strip, stripG]; simp -implicitDefEqProofs only [go_sem, Nat.reduceLT, Nat.reduceAdd, Nat.reduceEqDiff, reduceIte, Nat.reduceMul, Nat.reduceSub, reduceCtorEq, Int.reduceNe, Int.reduceEq, ne_eq, Nat.reduceLeDiff, Nat.reduceMod, Nat.reduceDiv]
    (repeat' first | (refine hK _ ?_; clear hK K') | with_reducible apply And.intro | omega)
    all_goals
      apply VC.at
      · simp -implicitDefEqProofs only [go_sem, Nat.reduceLT, Nat.reduceAdd, Nat.reduceEqDiff, reduceIte, Nat.reduceMul, Nat.reduceSub, reduceCtorEq, Int.reduceNe, Int.reduceEq, ne_eq, Nat.reduceLeDiff, Nat.reduceMod, Nat.reduceDiv]; (try simp (disch := omega) only [i64_in, tmodn, tdivn]); exact rfl
      first | (apply VC.condd; (focus (simp -implicitDefEqProofs only [go_sem, Nat.reduceLT, Nat.reduceAdd, Nat.reduceEqDiff, reduceIte, Nat.reduceMul, Nat.reduceSub, reduceCtorEq, Int.reduceNe, Int.reduceEq, ne_eq, Nat.reduceLeDiff, Nat.reduceMod, Nat.reduceDiv]; with_reducible exact rfl))) | (apply VC.condn; (focus (simp -implicitDefEqProofs only [go_sem, Nat.reduceLT, Nat.reduceAdd, Nat.reduceEqDiff, reduceIte, Nat.reduceMul, Nat.reduceSub, reduceCtorEq, Int.reduceNe, Int.reduceEq, ne_eq, Nat.reduceLeDiff, Nat.reduceMod, Nat.reduceDiv]; with_reducible exact rfl))) | (apply VC.condt; (focus (simp -implicitDefEqProofs only [go_sem, Nat.reduceLT, Nat.reduceAdd, Nat.reduceEqDiff, reduceIte, Nat.reduceMul, Nat.reduceSub, reduceCtorEq, Int.reduceNe, Int.reduceEq, ne_eq, Nat.reduceLeDiff, Nat.reduceMod, Nat.reduceDiv]; with_reducible exact rfl))) | (apply VC.condb; (focus (simp -implicitDefEqProofs only [go_sem, Nat.reduceLT, Nat.reduceAdd, Nat.reduceEqDiff, reduceIte, Nat.reduceMul, Nat.reduceSub, reduceCtorEq, Int.reduceNe, Int.reduceEq, ne_eq, Nat.reduceLeDiff, Nat.reduceMod, Nat.reduceDiv]; exact rfl)))
      · intro h; try exact absurd h (by decide)
        all_goals
          exfalso
          omega
      · intro h; try exact absurd h (by decide)
        all_goals
          apply VC.skip
          refine thenK_n ?_
          apply VC.regt sound_nil [0, 3]; intro K' hK; dsimp only [List.take, List.drop, List.map, strip, stripG]; simp -implicitDefEqProofs only [go_sem, Nat.reduceLT, Nat.reduceAdd, Nat.reduceEqDiff, reduceIte, Nat.reduceMul, Nat.reduceSub, reduceCtorEq, Int.reduceNe, Int.reduceEq, ne_eq, Nat.reduceLeDiff, Nat.reduceMod, Nat.reduceDiv, numsD_at gx0]
          (repeat' first | (refine hK _ ?_; clear hK K') | with_reducible apply And.intro | omega)
          all_goals
            apply VC.at
            · simp -implicitDefEqProofs only [go_sem, Nat.reduceLT, Nat.reduceAdd, Nat.reduceEqDiff, reduceIte, Nat.reduceMul, Nat.reduceSub, reduceCtorEq, Int.reduceNe, Int.reduceEq, ne_eq, Nat.reduceLeDiff, Nat.reduceMod, Nat.reduceDiv, numsD_at gx0]; (try simp (disch := omega) only [i64_in, tmodn, tdivn]); exact rfl
            apply VC.seq
            apply VC.regt sound_nil [0, 3, 4]; intro K' hK; dsimp only [List.take, List.drop, List.map, strip, stripG]; simp -implicitDefEqProofs only [go_sem, Nat.reduceLT, Nat.reduceAdd, Nat.reduceEqDiff, reduceIte, Nat.reduceMul, Nat.reduceSub, reduceCtorEq, Int.reduceNe, Int.reduceEq, ne_eq, Nat.reduceLeDiff, Nat.reduceMod, Nat.reduceDiv]
            (repeat' first | (refine hK _ ?_; clear hK K') | with_reducible apply And.intro | omega)
            all_goals
              apply VC.at
              · simp -implicitDefEqProofs only [go_sem, Nat.reduceLT, Nat.reduceAdd, Nat.reduceEqDiff, reduceIte, Nat.reduceMul, Nat.reduceSub, reduceCtorEq, Int.reduceNe, Int.reduceEq, ne_eq, Nat.reduceLeDiff, Nat.reduceMod, Nat.reduceDiv]; (try simp (disch := omega) only [i64_in, tmodn, tdivn]); exact rfl
              apply VC.block
              have ga0 : mx (a.take 1) = a.getD 0 0 := mx_one a (by omega)
              refine VC.loopP (ι := Nat) [0] (fun i => [(3, .dat (.int .u64 ((mx (a.take i) : Nat) : Int))), (4, .dat (.int .i64 (i : Int)))]) (fun _ => []) (fun i => 1 ≤ i ∧ i ≤ a.length) (fun i => a.length - i) 1 ?_ ?_ ?_
              · omega
              · refine Ent.to rfl rfl rfl ?_ ?_ <;> (simp -implicitDefEqProofs only [go_sem, Nat.reduceLT, Nat.reduceAdd, Nat.reduceEqDiff, reduceIte, Nat.reduceMul, Nat.reduceSub, reduceCtorEq, Int.reduceNe, Int.reduceEq, ne_eq, Nat.reduceLeDiff, Nat.reduceMod, Nat.reduceDiv]; (try simp only [D.dat.injEq, Vm.Data.int.injEq, true_and, and_true, and_self, eq_self]); (try omega); (try ((repeat' apply And.intro) <;> first | omega | rfl)))
              · rintro k hp; (try dsimp only at hp); obtain ⟨hk, hj⟩ := hp
                apply VC.at
                · simp -implicitDefEqProofs only [go_sem, Nat.reduceLT, Nat.reduceAdd, Nat.reduceEqDiff, reduceIte, Nat.reduceMul, Nat.reduceSub, reduceCtorEq, Int.reduceNe, Int.reduceEq, ne_eq, Nat.reduceLeDiff, Nat.reduceMod, Nat.reduceDiv]; (try simp (disch := omega) only [i64_in, tmodn, tdivn]); exact rfl
                apply VC.seq
                apply VC.regt sound_nil [0, 3, 4, 15]; intro K' hK; dsimp only [List.take, List.drop, List.map, strip, stripG]; simp -implicitDefEqProofs only [go_sem, Nat.reduceLT, Nat.reduceAdd, Nat.reduceEqDiff, reduceIte, Nat.reduceMul, Nat.reduceSub, reduceCtorEq, Int.reduceNe, Int.reduceEq, ne_eq, Nat.reduceLeDiff, Nat.reduceMod, Nat.reduceDiv]
                (repeat' first | (refine hK _ ?_; clear hK K') | with_reducible apply And.intro | omega)
                all_goals
                  apply VC.at
                  · simp -implicitDefEqProofs only [go_sem, Nat.reduceLT, Nat.reduceAdd, Nat.reduceEqDiff, reduceIte, Nat.reduceMul, Nat.reduceSub, reduceCtorEq, Int.reduceNe, Int.reduceEq, ne_eq, Nat.reduceLeDiff, Nat.reduceMod, Nat.reduceDiv]; (try simp (disch := omega) only [i64_in, tmodn, tdivn]); exact rfl
                  first | (apply VC.condd; (focus (simp -implicitDefEqProofs only [go_sem, Nat.reduceLT, Nat.reduceAdd, Nat.reduceEqDiff, reduceIte, Nat.reduceMul, Nat.reduceSub, reduceCtorEq, Int.reduceNe, Int.reduceEq, ne_eq, Nat.reduceLeDiff, Nat.reduceMod, Nat.reduceDiv]; with_reducible exact rfl))) | (apply VC.condn; (focus (simp -implicitDefEqProofs only [go_sem, Nat.reduceLT, Nat.reduceAdd, Nat.reduceEqDiff, reduceIte, Nat.reduceMul, Nat.reduceSub, reduceCtorEq, Int.reduceNe, Int.reduceEq, ne_eq, Nat.reduceLeDiff, Nat.reduceMod, Nat.reduceDiv]; with_reducible exact rfl))) | (apply VC.condt; (focus (simp -implicitDefEqProofs only [go_sem, Nat.reduceLT, Nat.reduceAdd, Nat.reduceEqDiff, reduceIte, Nat.reduceMul, Nat.reduceSub, reduceCtorEq, Int.reduceNe, Int.reduceEq, ne_eq, Nat.reduceLeDiff, Nat.reduceMod, Nat.reduceDiv]; with_reducible exact rfl))) | (apply VC.condb; (focus (simp -implicitDefEqProofs only [go_sem, Nat.reduceLT, Nat.reduceAdd, Nat.reduceEqDiff, reduceIte, Nat.reduceMul, Nat.reduceSub, reduceCtorEq, Int.reduceNe, Int.reduceEq, ne_eq, Nat.reduceLeDiff, Nat.reduceMod, Nat.reduceDiv]; exact rfl)))
                  · intro h; try exact absurd h (by decide)
                    all_goals
                      apply VC.skip
                      refine thenK_n ?_
                      apply VC.seq
                      apply VC.block
                      have gx : k < a.length := by omega
                      apply VC.regLast sound_nil; intro K' hK; dsimp only [List.take, List.drop, List.map, strip, stripG]; simp -implicitDefEqProofs only [go_sem, Nat.reduceLT, Nat.reduceAdd, Nat.reduceEqDiff, reduceIte, Nat.reduceMul, Nat.reduceSub, reduceCtorEq, Int.reduceNe, Int.reduceEq, ne_eq, Nat.reduceLeDiff, Nat.reduceMod, Nat.reduceDiv, numsD_at gx]
                      (repeat' first | (refine hK _ ?_; clear hK K') | with_reducible apply And.intro | omega)
                      all_goals
                        refine blockK_n ?_
                        refine thenK_n ?_
                        apply VC.regLast sound_nil; intro K' hK; dsimp only [List.take, List.drop, List.map, strip, stripG]; simp -implicitDefEqProofs only [go_sem, Nat.reduceLT, Nat.reduceAdd, Nat.reduceEqDiff, reduceIte, Nat.reduceMul, Nat.reduceSub, reduceCtorEq, Int.reduceNe, Int.reduceEq, ne_eq, Nat.reduceLeDiff, Nat.reduceMod, Nat.reduceDiv]
                        (repeat' first | (refine hK _ ?_; clear hK K') | with_reducible apply And.intro | omega)
                        all_goals
                          refine thenK_n ?_
                          refine ⟨(k + 1), ?_, Ent.to rfl rfl rfl ?_ ?_, ?_⟩
                          · omega
                          · simp -implicitDefEqProofs only [go_sem, Nat.reduceLT, Nat.reduceAdd, Nat.reduceEqDiff, reduceIte, Nat.reduceMul, Nat.reduceSub, reduceCtorEq, Int.reduceNe, Int.reduceEq, ne_eq, Nat.reduceLeDiff, Nat.reduceMod, Nat.reduceDiv]; (try simp (disch := omega) only [i64_in, tmodn, tdivn]); (try simp only [D.dat.injEq, Vm.Data.int.injEq, true_and, and_true, and_self, eq_self]); rw [mx_succ a k gx]; omega
                          · simp -implicitDefEqProofs only [go_sem, Nat.reduceLT, Nat.reduceAdd, Nat.reduceEqDiff, reduceIte, Nat.reduceMul, Nat.reduceSub, reduceCtorEq, Int.reduceNe, Int.reduceEq, ne_eq, Nat.reduceLeDiff, Nat.reduceMod, Nat.reduceDiv]; (try simp (disch := omega) only [i64_in, tmodn, tdivn]); (try simp only [D.dat.injEq, Vm.Data.int.injEq, true_and, and_true, and_self, eq_self]); (try omega); (try ((repeat' apply And.intro) <;> first | omega | rfl))
                          · omega
                  · intro h; try exact absurd h (by decide)
                    all_goals
                      apply VC.exit
                      refine thenK_e ?_
                      refine thenK_e ?_
                      refine blockK_e ?_
                      refine thenK_n ?_
                      apply VC.regt sound_nil [2]; intro K' hK; dsimp only [List.take, List.drop, List.map, strip, stripG]; simp -implicitDefEqProofs only [go_sem, Nat.reduceLT, Nat.reduceAdd, Nat.reduceEqDiff, reduceIte, Nat.reduceMul, Nat.reduceSub, reduceCtorEq, Int.reduceNe, Int.reduceEq, ne_eq, Nat.reduceLeDiff, Nat.reduceMod, Nat.reduceDiv]
                      (repeat' first | (refine hK _ ?_; clear hK K') | with_reducible apply And.intro | omega)
                      all_goals
                        apply VC.at
                        · simp -implicitDefEqProofs only [go_sem, Nat.reduceLT, Nat.reduceAdd, Nat.reduceEqDiff, reduceIte, Nat.reduceMul, Nat.reduceSub, reduceCtorEq, Int.reduceNe, Int.reduceEq, ne_eq, Nat.reduceLeDiff, Nat.reduceMod, Nat.reduceDiv]; (try simp (disch := omega) only [i64_in, tmodn, tdivn]); exact rfl
                        apply VC.ret
                        simp -implicitDefEqProofs only [go_sem, Nat.reduceLT, Nat.reduceAdd, Nat.reduceEqDiff, reduceIte, Nat.reduceMul, Nat.reduceSub, reduceCtorEq, Int.reduceNe, Int.reduceEq, ne_eq, Nat.reduceLeDiff, Nat.reduceMod, Nat.reduceDiv]
                        all_goals (rw [show k = a.length by omega, List.take_length])
end Go.Proofs.YtgfadocohpinmaaDoor.Oa
namespace Go.Proofs.YtgfadocohpinmaaDoor.Oa
open Go Go.RowKit Go.Proofs.YtgfadocohpinmaaDoor.Vm Go.IntWalk
set_option maxRecDepth 100000
set_option maxHeartbeats 4000000
noncomputable def ΦM : Fns := tab [(32, maxF)]
theorem ΦM_ok : Sound E ΦM := sound_cons (by kernel_rfl) max_ok (sound_nil)
@[go_sem] theorem ΦM_32 : ΦM 32 = some maxF := rfl
def may (l : List Nat) : Bool := decide (2 ≤ l.length ∧ l.length ≤ 20 ∧ l.getD 0 0 ≤ 2 ∧ (l.getD 0 0 < 2 → l.getD 1 0 < 40) ∧ mx l ≤ 9223372036854775807 ∧ l.getD 1 0 + 40 * l.getD 0 0 ≤ 9223372036854775807)
theorem may_yes (l : List Nat) (h : 2 ≤ l.length ∧ l.length ≤ 20 ∧ l.getD 0 0 ≤ 2 ∧ (l.getD 0 0 < 2 → l.getD 1 0 < 40) ∧ mx l ≤ 9223372036854775807 ∧ l.getD 1 0 + 40 * l.getD 0 0 ≤ 9223372036854775807) : may l = true := decide_eq_true h
theorem may_no (l : List Nat) (h : ¬ (2 ≤ l.length ∧ l.length ≤ 20 ∧ l.getD 0 0 ≤ 2 ∧ (l.getD 0 0 < 2 → l.getD 1 0 < 40) ∧ mx l ≤ 9223372036854775807 ∧ l.getD 1 0 + 40 * l.getD 0 0 ≤ 9223372036854775807)) : may l = false := decide_eq_false h
def checkA (a : List Nat) : List Vm.Data := [.lst (numsD a)]
noncomputable def checkF : PFn := PFn.of checkA (fun a => a.length ≤ 4611686018427387904) (fun a => [.int .i64 (if may a then 0 else 140)])
theorem check_inj (x y : List Nat) (h : checkA x = checkA y) : x = y := by
  simpa [checkA, Prod.ext_iff, numsD_inj, bytesD_inj, Vm.Data.lst.injEq, Int.natCast_inj] using h
@[go_sem] theorem check_pre (a : List Nat) : checkF.pre [.lst (numsD a)] = (a.length ≤ 4611686018427387904) := PFn.of_pre check_inj a
@[go_sem] theorem check_res (a : List Nat) : checkF.res [.lst (numsD a)] = [.int .i64 (if may a then 0 else 140)] := PFn.of_res check_inj a
theorem check_ok : Pure E 14 checkF := by
  apply Pure.of_body (rs := [.tmp 2]) (n := 45) Tryd.func14 rfl rfl rfl
  intro ds hds
  obtain ⟨a, rfl, hds⟩ := hds
  (try dsimp only at hds)
  rw [show checkF.res (checkA a) = [.int .i64 (if may a then 0 else 140)] from check_res a]
  skip
  refine ⟨Nat.le_of_ble_eq_true rfl, ?_⟩
  show VC E none _ (pureSt 45 [.lst (numsD a)]) _
  apply VC.regt ΦM_ok [0]; intro K' hK; dsimp only [List.take, List.drop, List.map, strip, stripG]; simp -implicitDefEqProofs only [go_sem, Nat.reduceLT, Nat.reduceAdd, Nat.reduceEqDiff, reduceIte, Nat.reduceMul, Nat.reduceSub, reduceCtorEq, Int.reduceNe, Int.reduceEq, ne_eq, Nat.reduceLeDiff, Nat.reduceMod, Nat.reduceDiv]
  (repeat' first | (refine hK _ ?_; clear hK K') | with_reducible apply And.intro | (simp -implicitDefEqProofs (disch := omega) only [numsD_at, i64_in, u64_in, List.length_cons, List.length_nil, Nat.reduceAdd]; done) | omega)
  all_goals
    apply VC.at
    · simp -implicitDefEqProofs only [go_sem, Nat.reduceLT, Nat.reduceAdd, Nat.reduceEqDiff, reduceIte, Nat.reduceMul, Nat.reduceSub, reduceCtorEq, Int.reduceNe, Int.reduceEq, ne_eq, Nat.reduceLeDiff, Nat.reduceMod, Nat.reduceDiv]; (try simp (disch := omega) only [i64_in, tmodn, tdivn]); exact rfl
    apply VC.seq
    apply VC.draw1 ΦM_ok (by kernel_rfl) 42 (by kernel_rfl) (by kernel_rfl) [44]; intro L hL; dsimp only [List.take, List.drop, List.map, strip, stripG]; simp only [gtmp, List.getElem?_toArray, List.getElem?_cons_succ, List.getElem?_cons_zero, Option.bind_some]; simp -implicitDefEqProofs only [go_sem, Nat.reduceLT, Nat.reduceAdd, Nat.reduceEqDiff, reduceIte, Nat.reduceMul, Nat.reduceSub, reduceCtorEq, Int.reduceNe, Int.reduceEq, ne_eq, Nat.reduceLeDiff, Nat.reduceMod, Nat.reduceDiv]
    (repeat' first | (refine hL _ ?_; intro K' hK; dsimp only [List.drop, List.map, strip, stripG]; simp -implicitDefEqProofs only [go_sem, Nat.reduceLT, Nat.reduceAdd, Nat.reduceEqDiff, reduceIte, Nat.reduceMul, Nat.reduceSub, reduceCtorEq, Int.reduceNe, Int.reduceEq, ne_eq, Nat.reduceLeDiff, Nat.reduceMod, Nat.reduceDiv]; refine hK _ ?_; clear hK K' hL L) | (first | apply runB_splitD | apply runA_splitD | apply runB_split | apply runA_split) <;> intro _ <;> simp -implicitDefEqProofs only [go_sem, Nat.reduceLT, Nat.reduceAdd, Nat.reduceEqDiff, reduceIte, Nat.reduceMul, Nat.reduceSub, reduceCtorEq, Int.reduceNe, Int.reduceEq, ne_eq, Nat.reduceLeDiff, Nat.reduceMod, Nat.reduceDiv] | ((first | with_reducible refine runA_id ?_ | with_reducible refine goA_id ?_); simp -implicitDefEqProofs (disch := omega) only [numsD_at, i64_in, u64_in]; simp -implicitDefEqProofs only [go_sem, Nat.reduceLT, Nat.reduceAdd, Nat.reduceEqDiff, reduceIte, Nat.reduceMul, Nat.reduceSub, reduceCtorEq, Int.reduceNe, Int.reduceEq, ne_eq, Nat.reduceLeDiff, Nat.reduceMod, Nat.reduceDiv]) | with_reducible apply And.intro | (simp -implicitDefEqProofs (disch := omega) only [numsD_at, i64_in, u64_in, List.length_cons, List.length_nil, Nat.reduceAdd]; done) | omega)
    all_goals
      apply VC.at
      · simp -implicitDefEqProofs only [go_sem, Nat.reduceLT, Nat.reduceAdd, Nat.reduceEqDiff, reduceIte, Nat.reduceMul, Nat.reduceSub, reduceCtorEq, Int.reduceNe, Int.reduceEq, ne_eq, Nat.reduceLeDiff, Nat.reduceMod, Nat.reduceDiv]; (try simp (disch := omega) only [i64_in, tmodn, tdivn]); exact rfl
      first | (apply VC.condd; (focus (simp -implicitDefEqProofs only [go_sem, Nat.reduceLT, Nat.reduceAdd, Nat.reduceEqDiff, reduceIte, Nat.reduceMul, Nat.reduceSub, reduceCtorEq, Int.reduceNe, Int.reduceEq, ne_eq, Nat.reduceLeDiff, Nat.reduceMod, Nat.reduceDiv]; with_reducible exact rfl))) | (apply VC.condn; (focus (simp -implicitDefEqProofs only [go_sem, Nat.reduceLT, Nat.reduceAdd, Nat.reduceEqDiff, reduceIte, Nat.reduceMul, Nat.reduceSub, reduceCtorEq, Int.reduceNe, Int.reduceEq, ne_eq, Nat.reduceLeDiff, Nat.reduceMod, Nat.reduceDiv]; with_reducible exact rfl))) | (apply VC.condt; (focus (simp -implicitDefEqProofs only [go_sem, Nat.reduceLT, Nat.reduceAdd, Nat.reduceEqDiff, reduceIte, Nat.reduceMul, Nat.reduceSub, reduceCtorEq, Int.reduceNe, Int.reduceEq, ne_eq, Nat.reduceLeDiff, Nat.reduceMod, Nat.reduceDiv]; with_reducible exact rfl))) | (apply VC.condb; (focus (simp -implicitDefEqProofs only [go_sem, Nat.reduceLT, Nat.reduceAdd, Nat.reduceEqDiff, reduceIte, Nat.reduceMul, Nat.reduceSub, reduceCtorEq, Int.reduceNe, Int.reduceEq, ne_eq, Nat.reduceLeDiff, Nat.reduceMod, Nat.reduceDiv]; exact rfl)))
      · intro h; try exact absurd h (by decide)
        all_goals
          apply VC.regt ΦM_ok [2]; intro K' hK; dsimp only [List.take, List.drop, List.map, strip, stripG]; simp -implicitDefEqProofs only [go_sem, Nat.reduceLT, Nat.reduceAdd, Nat.reduceEqDiff, reduceIte, Nat.reduceMul, Nat.reduceSub, reduceCtorEq, Int.reduceNe, Int.reduceEq, ne_eq, Nat.reduceLeDiff, Nat.reduceMod, Nat.reduceDiv]
          (repeat' first | (refine hK _ ?_; clear hK K') | with_reducible apply And.intro | (simp -implicitDefEqProofs (disch := omega) only [numsD_at, i64_in, u64_in, List.length_cons, List.length_nil, Nat.reduceAdd]; done) | omega)
          all_goals
            apply VC.at
            · simp -implicitDefEqProofs only [go_sem, Nat.reduceLT, Nat.reduceAdd, Nat.reduceEqDiff, reduceIte, Nat.reduceMul, Nat.reduceSub, reduceCtorEq, Int.reduceNe, Int.reduceEq, ne_eq, Nat.reduceLeDiff, Nat.reduceMod, Nat.reduceDiv]; (try simp (disch := omega) only [i64_in, tmodn, tdivn]); exact rfl
            apply VC.ret
            refine thenK_r ?_
            simp -implicitDefEqProofs only [go_sem, Nat.reduceLT, Nat.reduceAdd, Nat.reduceEqDiff, reduceIte, Nat.reduceMul, Nat.reduceSub, reduceCtorEq, Int.reduceNe, Int.reduceEq, ne_eq, Nat.reduceLeDiff, Nat.reduceMod, Nat.reduceDiv]
            all_goals ((try simp (disch := omega) only [i64_in, u64_in] at *); first | (rw [may_no a (by omega)]; rfl) | (rw [may_yes a (by omega)]; rfl))
      · intro h; try exact absurd h (by decide)
        all_goals
          apply VC.skip
          refine thenK_n ?_
          apply VC.regt ΦM_ok [2]; intro K' hK; dsimp only [List.take, List.drop, List.map, strip, stripG]; simp -implicitDefEqProofs only [go_sem, Nat.reduceLT, Nat.reduceAdd, Nat.reduceEqDiff, reduceIte, Nat.reduceMul, Nat.reduceSub, reduceCtorEq, Int.reduceNe, Int.reduceEq, ne_eq, Nat.reduceLeDiff, Nat.reduceMod, Nat.reduceDiv]
          (repeat' first | (refine hK _ ?_; clear hK K') | with_reducible apply And.intro | (simp -implicitDefEqProofs (disch := omega) only [numsD_at, i64_in, u64_in, List.length_cons, List.length_nil, Nat.reduceAdd]; done) | omega)
          all_goals
            apply VC.at
            · simp -implicitDefEqProofs only [go_sem, Nat.reduceLT, Nat.reduceAdd, Nat.reduceEqDiff, reduceIte, Nat.reduceMul, Nat.reduceSub, reduceCtorEq, Int.reduceNe, Int.reduceEq, ne_eq, Nat.reduceLeDiff, Nat.reduceMod, Nat.reduceDiv]; (try simp (disch := omega) only [i64_in, tmodn, tdivn]); exact rfl
            apply VC.ret
            simp -implicitDefEqProofs only [go_sem, Nat.reduceLT, Nat.reduceAdd, Nat.reduceEqDiff, reduceIte, Nat.reduceMul, Nat.reduceSub, reduceCtorEq, Int.reduceNe, Int.reduceEq, ne_eq, Nat.reduceLeDiff, Nat.reduceMod, Nat.reduceDiv]
            all_goals ((try simp (disch := omega) only [i64_in, u64_in] at *); first | (rw [may_no a (by omega)]; rfl) | (rw [may_yes a (by omega)]; rfl))
end Go.Proofs.YtgfadocohpinmaaDoor.Oa
namespace Go.Proofs.YtgfadocohpinmaaDoor.Oa
open Go Go.RowKit Go.Proofs.YtgfadocohpinmaaDoor.Vm Go.IntWalk
set_option maxRecDepth 100000
set_option maxHeartbeats 4000000
noncomputable def ΦC : Fns := tab [(14, checkF)]
theorem ΦC_ok : Sound E ΦC := sound_cons (by kernel_rfl) check_ok (sound_nil)
@[go_sem] theorem ΦC_33 : ΦC 33 = none := rfl
@[go_sem] theorem ΦC_c33 : callable Tryd.prog 33 = true := by kernel_rfl
@[go_sem] theorem ΦC_45 : ΦC 45 = none := rfl
@[go_sem] theorem ΦC_c45 : callable Tryd.prog 45 = true := by kernel_rfl
@[go_sem] theorem ΦC_14 : ΦC 14 = some checkF := rfl
/-- One group of seven bits, of ten. -/
def grp (n j : Nat) : List UInt8 := if j < 9 ∧ n / 2 ^ (63 - 7 * j) = 0 then [] else [UInt8.ofNat (n / 2 ^ (63 - 7 * j) % 128 + if j = 9 then 0 else 128)]
def encTo (n j : Nat) : List UInt8 := (List.range j).flatMap (grp n)
def enc1 (n : Nat) : List UInt8 := encTo n 10
theorem encTo_succ (n j : Nat) : encTo n (j + 1) = encTo n j ++ grp n j := by simp [encTo, List.range_succ]
theorem encTo_zero (n : Nat) : encTo n 0 = [] := rfl
theorem grp_skip {n j : Nat} (h : j < 9) (h' : n / 2 ^ (63 - 7 * j) = 0) : grp n j = [] := if_pos ⟨h, h'⟩
theorem grp_more {n j : Nat} (h : j < 9) (h' : ¬ n / 2 ^ (63 - 7 * j) = 0) : grp n j = [UInt8.ofNat (n / 2 ^ (63 - 7 * j) % 128 + 128)] := by
  unfold grp; rw [if_neg (fun e => h' e.2), if_neg (by omega)]
theorem grp_last {n j : Nat} (h : j = 9) : grp n j = [UInt8.ofNat (n / 2 ^ (63 - 7 * j) % 128)] := by
  unfold grp; rw [if_neg (by omega), if_pos h]; rfl
theorem shr_at (n j : Nat) (h : j ≤ 9) : (n : Int).fdiv (2 ^ min (63 - 7 * (j : Int)).toNat 64) = ((n / 2 ^ (63 - 7 * j) : Nat) : Int) := by
  have e : min (63 - 7 * (j : Int)).toNat 64 = 63 - 7 * j := by omega
  rw [e, Int.fdiv_eq_ediv_of_nonneg _ (by exact Int.le_of_lt (Int.pow_pos (by decide)))]
  simp
theorem and127 : ∀ b : Fin 256, bits .and .u8 (b.val : Int) 127 = ((b.val % 128 : Nat) : Int) := by decide +kernel
theorem or128 : ∀ b : Fin 128, bits .or .u8 (b.val : Int) 128 = ((b.val + 128 : Nat) : Int) := by decide +kernel
theorem low7 (x : Nat) : bits .and .u8 (IntKind.u8.wrap (x : Int)) 127 = ((x % 128 : Nat) : Int) := by
  have h := and127 ⟨x % 256, Nat.mod_lt _ (by decide)⟩
  rw [show IntKind.u8.wrap (x : Int) = ((x % 256 : Nat) : Int) by rw [IntKind.wrap_u8]; omega]
  rw [h]
  simp only [Int.natCast_inj]; omega
theorem high (x : Nat) : bits .or .u8 ((x % 128 : Nat) : Int) 128 = ((x % 128 + 128 : Nat) : Int) := or128 ⟨x % 128, Nat.mod_lt _ (by decide)⟩
theorem byte_snoc0 (l : List UInt8) (x : Nat) (h : x < 256) : bytesD l ++ [[.int .u8 (x : Int)]] = bytesD (l ++ [UInt8.ofNat x]) := by
  rw [← bytesD_snoc, UInt8.toNat_ofNat', Nat.mod_eq_of_lt h]
theorem byte_snoc7 (l : List UInt8) (x : Nat) : bytesD l ++ [[.int .u8 ((x % 128 : Nat) : Int)]] = bytesD (l ++ [UInt8.ofNat (x % 128)]) := byte_snoc0 l _ (by have := Nat.mod_lt x (show 0 < 128 by decide); omega)
theorem byte_snoc8 (l : List UInt8) (x : Nat) : bytesD l ++ [[.int .u8 ((x % 128 + 128 : Nat) : Int)]] = bytesD (l ++ [UInt8.ofNat (x % 128 + 128)]) := byte_snoc0 l _ (by have := Nat.mod_lt x (show 0 < 128 by decide); omega)
theorem grp_len (n j : Nat) : (grp n j).length ≤ 1 := by unfold grp; split <;> simp
theorem encTo_len (n j : Nat) : (encTo n j).length ≤ j := by
  induction j with
  | zero => simp [encTo]
  | succ j ih => rw [encTo_succ, List.length_append]; have := grp_len n j; omega
/-- The numbers as they are written: the first two as one. -/
def num (l : List Nat) (k : Nat) : Nat := if k = 0 then l.getD 1 0 + 40 * l.getD 0 0 else l.getD (k + 1) 0
theorem num_zero (l : List Nat) (k : Nat) (h : k = 0) : num l k = l.getD (k + 1) 0 + 40 * l.getD 0 0 := by subst h; rfl
theorem num_pos (l : List Nat) (k : Nat) (h : ¬ k = 0) : num l k = l.getD (k + 1) 0 := if_neg h
@[go_sem] theorem getD_drop1 (l : List Nat) (k : Nat) : (l.drop 1).getD k 0 = l.getD (k + 1) 0 := by simp [List.getD_eq_getElem?_getD, Nat.add_comm]
def encN (l : List Nat) (k : Nat) : List UInt8 := (List.range k).flatMap fun i => enc1 (num l i)
theorem encN_len (l : List Nat) (k : Nat) : (encN l k).length ≤ 10 * k := by
  induction k with
  | zero => simp [encN]
  | succ k ih =>
    have e : encN l (k + 1) = encN l k ++ enc1 (num l k) := by simp [encN, List.range_succ]
    rw [e, List.length_append]; have := encTo_len (num l k) 10; unfold enc1; omega
def enc (l : List Nat) : List UInt8 := encN l (l.length - 1)
def encO (l : List Nat) : List UInt8 := if may l then enc l else []
theorem encN_succ (l : List Nat) (k : Nat) : encN l (k + 1) = encN l k ++ enc1 (num l k) := by simp [encN, List.range_succ]
def bytesA (l : List Nat) : List Vm.Data := [.lst (numsD l)]
noncomputable def bytesO : OFn := OFn.of bytesA (fun l => l.length ≤ 4611686018427387904) 5 1 (fun l => bytesD (encO l)) (fun l => [.int .i64 (if may l then 0 else 140)])
noncomputable def bytesF : PFn := bytesO.shut
theorem bytes_inj (x y : List Nat) (h : bytesA x = bytesA y) : x = y := by
  simpa [bytesA, Prod.ext_iff, numsD_inj, bytesD_inj, Vm.Data.lst.injEq, Int.natCast_inj] using h
@[go_sem] theorem bytes_opre (l : List Nat) : bytesO.pre [.lst (numsD l)] = (l.length ≤ 4611686018427387904) := OFn.of_pre bytes_inj l
@[go_sem] theorem bytes_orow (l : List Nat) : bytesO.row [.lst (numsD l)] = bytesD (encO l) := OFn.of_row bytes_inj l
@[go_sem] theorem bytes_orest (l : List Nat) : bytesO.rest [.lst (numsD l)] = [.int .i64 (if may l then 0 else 140)] := OFn.of_rest bytes_inj l
@[go_sem] theorem bytes_oe : bytesO.e = 5 := rfl
@[go_sem] theorem bytes_osz : bytesO.sz = 1 := rfl
@[go_sem] theorem bytes_pre (l : List Nat) : bytesF.pre [.lst (numsD l)] = (l.length ≤ 4611686018427387904) := bytes_opre l
@[go_sem] theorem bytes_res (l : List Nat) : bytesF.res [.lst (numsD l)] = [.lst (bytesD (encO l)), .int .i64 (if may l then 0 else 140)] := by
  show Vm.Data.lst (bytesO.row [.lst (numsD l)]) :: bytesO.rest [.lst (numsD l)] = _
  rw [bytes_orow, bytes_orest]
theorem bytes_own : Own E 16 bytesO := by
  apply Own.of_body (rs := [.tmp 2, .tmp 3]) (n := 45) Tryd.func16 rfl rfl rfl
  intro ds hds
  obtain ⟨l, rfl, hds⟩ := hds
  (try dsimp only at hds)
  rw [show bytesO.row (bytesA l) = bytesD (encO l) from bytes_orow l, show bytesO.rest (bytesA l) = [.int .i64 (if may l then 0 else 140)] from bytes_orest l, bytes_oe, bytes_osz]
  skip
  refine ⟨Nat.le_of_ble_eq_true rfl, ?_⟩
  show VC E none _ (pureSt 45 [.lst (numsD l)]) _
  apply VC.regt ΦC_ok [0, 8, 9]; intro K' hK; dsimp only [List.take, List.drop, List.map, strip, stripG]; simp -implicitDefEqProofs only [go_sem, Nat.reduceLT, Nat.reduceAdd, Nat.reduceEqDiff, reduceIte, Nat.reduceMul, Nat.reduceSub, reduceCtorEq, Int.reduceNe, Int.reduceEq, ne_eq, Nat.reduceLeDiff, Nat.reduceMod, Nat.reduceDiv]
  (repeat' first | (refine hK _ ?_; clear hK K') | with_reducible apply And.intro | (simp -implicitDefEqProofs (disch := omega) only [numsD_at, i64_in, u64_in, List.length_cons, List.length_nil, Nat.reduceAdd]; done) | omega)
  all_goals
    apply VC.at
    · simp -implicitDefEqProofs only [go_sem, Nat.reduceLT, Nat.reduceAdd, Nat.reduceEqDiff, reduceIte, Nat.reduceMul, Nat.reduceSub, reduceCtorEq, Int.reduceNe, Int.reduceEq, ne_eq, Nat.reduceLeDiff, Nat.reduceMod, Nat.reduceDiv]; (try simp (disch := omega) only [i64_in, tmodn, tdivn]); exact rfl
    apply VC.seq
    apply VC.regt ΦC_ok [0, 4, 8, 9]; intro K' hK; dsimp only [List.take, List.drop, List.map, strip, stripG]; simp -implicitDefEqProofs only [go_sem, Nat.reduceLT, Nat.reduceAdd, Nat.reduceEqDiff, reduceIte, Nat.reduceMul, Nat.reduceSub, reduceCtorEq, Int.reduceNe, Int.reduceEq, ne_eq, Nat.reduceLeDiff, Nat.reduceMod, Nat.reduceDiv]
    (repeat' first | (refine hK _ ?_; clear hK K') | ((first | with_reducible refine runA_id ?_ | with_reducible refine goA_id ?_); simp -implicitDefEqProofs (disch := omega) only [numsD_at, i64_in, u64_in]; simp -implicitDefEqProofs only [go_sem, Nat.reduceLT, Nat.reduceAdd, Nat.reduceEqDiff, reduceIte, Nat.reduceMul, Nat.reduceSub, reduceCtorEq, Int.reduceNe, Int.reduceEq, ne_eq, Nat.reduceLeDiff, Nat.reduceMod, Nat.reduceDiv]) | with_reducible apply And.intro | (simp -implicitDefEqProofs (disch := omega) only [numsD_at, i64_in, u64_in, List.length_cons, List.length_nil, Nat.reduceAdd]; done) | omega)
    all_goals
      apply VC.at
      · simp -implicitDefEqProofs only [go_sem, Nat.reduceLT, Nat.reduceAdd, Nat.reduceEqDiff, reduceIte, Nat.reduceMul, Nat.reduceSub, reduceCtorEq, Int.reduceNe, Int.reduceEq, ne_eq, Nat.reduceLeDiff, Nat.reduceMod, Nat.reduceDiv]; (try simp (disch := omega) only [i64_in, tmodn, tdivn]); exact rfl
      apply VC.regt ΦC_ok [0, 4, 8, 9, 13]; intro K' hK; dsimp only [List.take, List.drop, List.map, strip, stripG]; simp -implicitDefEqProofs only [go_sem, Nat.reduceLT, Nat.reduceAdd, Nat.reduceEqDiff, reduceIte, Nat.reduceMul, Nat.reduceSub, reduceCtorEq, Int.reduceNe, Int.reduceEq, ne_eq, Nat.reduceLeDiff, Nat.reduceMod, Nat.reduceDiv]
      (repeat' first | (refine hK _ ?_; clear hK K') | with_reducible apply And.intro | (simp -implicitDefEqProofs (disch := omega) only [numsD_at, i64_in, u64_in, List.length_cons, List.length_nil, Nat.reduceAdd]; done) | omega)
      all_goals
        apply VC.at
        · simp -implicitDefEqProofs only [go_sem, Nat.reduceLT, Nat.reduceAdd, Nat.reduceEqDiff, reduceIte, Nat.reduceMul, Nat.reduceSub, reduceCtorEq, Int.reduceNe, Int.reduceEq, ne_eq, Nat.reduceLeDiff, Nat.reduceMod, Nat.reduceDiv]; (try simp (disch := omega) only [i64_in, tmodn, tdivn]); exact rfl
        first | (apply VC.condd; (focus (simp -implicitDefEqProofs only [go_sem, Nat.reduceLT, Nat.reduceAdd, Nat.reduceEqDiff, reduceIte, Nat.reduceMul, Nat.reduceSub, reduceCtorEq, Int.reduceNe, Int.reduceEq, ne_eq, Nat.reduceLeDiff, Nat.reduceMod, Nat.reduceDiv]; with_reducible exact rfl))) | (apply VC.condn; (focus (simp -implicitDefEqProofs only [go_sem, Nat.reduceLT, Nat.reduceAdd, Nat.reduceEqDiff, reduceIte, Nat.reduceMul, Nat.reduceSub, reduceCtorEq, Int.reduceNe, Int.reduceEq, ne_eq, Nat.reduceLeDiff, Nat.reduceMod, Nat.reduceDiv]; with_reducible exact rfl))) | (apply VC.condt; (focus (simp -implicitDefEqProofs only [go_sem, Nat.reduceLT, Nat.reduceAdd, Nat.reduceEqDiff, reduceIte, Nat.reduceMul, Nat.reduceSub, reduceCtorEq, Int.reduceNe, Int.reduceEq, ne_eq, Nat.reduceLeDiff, Nat.reduceMod, Nat.reduceDiv]; with_reducible exact rfl))) | (apply VC.condb; (focus (simp -implicitDefEqProofs only [go_sem, Nat.reduceLT, Nat.reduceAdd, Nat.reduceEqDiff, reduceIte, Nat.reduceMul, Nat.reduceSub, reduceCtorEq, Int.reduceNe, Int.reduceEq, ne_eq, Nat.reduceLeDiff, Nat.reduceMod, Nat.reduceDiv]; exact rfl)))
        · intro h; try exact absurd h (by decide)
          all_goals
            apply VC.regt ΦC_ok [2, 3]; intro K' hK; dsimp only [List.take, List.drop, List.map, strip, stripG]; simp -implicitDefEqProofs only [go_sem, Nat.reduceLT, Nat.reduceAdd, Nat.reduceEqDiff, reduceIte, Nat.reduceMul, Nat.reduceSub, reduceCtorEq, Int.reduceNe, Int.reduceEq, ne_eq, Nat.reduceLeDiff, Nat.reduceMod, Nat.reduceDiv]
            (repeat' first | (refine hK _ ?_; clear hK K') | with_reducible apply And.intro | (simp -implicitDefEqProofs (disch := omega) only [numsD_at, i64_in, u64_in, List.length_cons, List.length_nil, Nat.reduceAdd]; done) | omega)
            all_goals
              apply VC.at
              · simp -implicitDefEqProofs only [go_sem, Nat.reduceLT, Nat.reduceAdd, Nat.reduceEqDiff, reduceIte, Nat.reduceMul, Nat.reduceSub, reduceCtorEq, Int.reduceNe, Int.reduceEq, ne_eq, Nat.reduceLeDiff, Nat.reduceMod, Nat.reduceDiv]; (try simp (disch := omega) only [i64_in, tmodn, tdivn]); exact rfl
              apply VC.ret
              refine thenK_r ?_
              first | (refine ownK_r (ownS_marks (h := [_, _]) rfl (by simp) ?_)) | skip
              simp -implicitDefEqProofs only [go_sem, Nat.reduceLT, Nat.reduceAdd, Nat.reduceEqDiff, reduceIte, Nat.reduceMul, Nat.reduceSub, reduceCtorEq, Int.reduceNe, Int.reduceEq, ne_eq, Nat.reduceLeDiff, Nat.reduceMod, Nat.reduceDiv]
              all_goals (first | (cases e : may l <;> simp_all [encO, bytesD]; done) | (rw [show k = l.length - 1 by omega]; refine ⟨by simp [hm, encO, enc], ?_, by rw [if_pos hm]⟩; simp [hm, enc, encO]; done))
        · intro h; try exact absurd h (by decide)
          all_goals
            apply VC.skip
            refine thenK_n ?_
            have hm : may l = true := by
              cases e : may l
              · rw [e] at h; exact absurd h (by decide)
              · rfl
            have hml := of_decide_eq_true hm
            apply VC.regt ΦC_ok [0, 5, 8, 9]; intro K' hK; dsimp only [List.take, List.drop, List.map, strip, stripG]; simp -implicitDefEqProofs only [go_sem, Nat.reduceLT, Nat.reduceAdd, Nat.reduceEqDiff, reduceIte, Nat.reduceMul, Nat.reduceSub, reduceCtorEq, Int.reduceNe, Int.reduceEq, ne_eq, Nat.reduceLeDiff, Nat.reduceMod, Nat.reduceDiv]
            (repeat' first | (refine hK _ ?_; clear hK K') | with_reducible apply And.intro | (simp -implicitDefEqProofs (disch := omega) only [numsD_at, i64_in, u64_in, List.length_cons, List.length_nil, Nat.reduceAdd]; done) | omega)
            all_goals
              apply VC.at
              · simp -implicitDefEqProofs only [go_sem, Nat.reduceLT, Nat.reduceAdd, Nat.reduceEqDiff, reduceIte, Nat.reduceMul, Nat.reduceSub, reduceCtorEq, Int.reduceNe, Int.reduceEq, ne_eq, Nat.reduceLeDiff, Nat.reduceMod, Nat.reduceDiv]; (try simp (disch := omega) only [i64_in, tmodn, tdivn]); exact rfl
              apply VC.seq
              have hdrop : List.take (↑l.length - 1 : Int).toNat (List.drop 1 l) = l.drop 1 := List.take_of_length_le (by simp)
              have hlen : (List.drop 1 l).length = l.length - 1 := List.length_drop
              have mg : ∀ j, j < l.length → l.getD j 0 ≤ 9223372036854775807 := fun j hj => (mx_all l _).1 hml.2.2.2.2.1 _ (by rw [List.getD_eq_getElem?_getD, List.getElem?_eq_getElem hj]; exact List.getElem_mem hj)
              apply VC.regt ΦC_ok [0, 5, 8, 9, 16, 17, 18]; intro K' hK; dsimp only [List.take, List.drop, List.map, strip, stripG]; simp -implicitDefEqProofs only [go_sem, Nat.reduceLT, Nat.reduceAdd, Nat.reduceEqDiff, reduceIte, Nat.reduceMul, Nat.reduceSub, reduceCtorEq, Int.reduceNe, Int.reduceEq, ne_eq, Nat.reduceLeDiff, Nat.reduceMod, Nat.reduceDiv]
              (repeat' first | (refine hK _ ?_; clear hK K') | ((first | with_reducible refine runA_id ?_ | with_reducible refine goA_id ?_); simp -implicitDefEqProofs (disch := omega) only [numsD_at, i64_in, u64_in]; simp -implicitDefEqProofs only [go_sem, Nat.reduceLT, Nat.reduceAdd, Nat.reduceEqDiff, reduceIte, Nat.reduceMul, Nat.reduceSub, reduceCtorEq, Int.reduceNe, Int.reduceEq, ne_eq, Nat.reduceLeDiff, Nat.reduceMod, Nat.reduceDiv]) | with_reducible apply And.intro | (simp -implicitDefEqProofs (disch := omega) only [numsD_at, i64_in, u64_in, List.length_cons, List.length_nil, Nat.reduceAdd]; done) | omega)
              all_goals
                apply VC.at
                · simp -implicitDefEqProofs only [go_sem, Nat.reduceLT, Nat.reduceAdd, Nat.reduceEqDiff, reduceIte, Nat.reduceMul, Nat.reduceSub, reduceCtorEq, Int.reduceNe, Int.reduceEq, ne_eq, Nat.reduceLeDiff, Nat.reduceMod, Nat.reduceDiv]; (try simp (disch := omega) only [i64_in, tmodn, tdivn]); (try simp only [hdrop, List.length_drop]); exact rfl
                apply VC.block
                refine VC.loopM (ι := Nat) [0, 5, 16, 17] (fun k => [(18, .dat (.int .i64 (k : Int)))]) marks (fun k => (1, .cells [.sl 2 0 (encN l k).length] false) :: (2, .arr 5 1 (bytesD (encN l k)) 0) :: marksH k) (fun k => k ≤ l.length - 1) (fun k => l.length - 1 - k) 0 (Nat.zero_le _) ?_ ?_
                · refine (Ent.nilC 1 0 2 5 1 (cs := [.nilsl]) (fz := false) (by decide) (by simp -implicitDefEqProofs only [go_sem, Nat.reduceLT, Nat.reduceAdd, Nat.reduceEqDiff, reduceIte, Nat.reduceMul, Nat.reduceSub, reduceCtorEq, Int.reduceNe, Int.reduceEq, ne_eq, Nat.reduceLeDiff, Nat.reduceMod, Nat.reduceDiv]) (by decide) (by simp -implicitDefEqProofs only [go_sem, Nat.reduceLT, Nat.reduceAdd, Nat.reduceEqDiff, reduceIte, Nat.reduceMul, Nat.reduceSub, reduceCtorEq, Int.reduceNe, Int.reduceEq, ne_eq, Nat.reduceLeDiff, Nat.reduceMod, Nat.reduceDiv]) rfl).trans (Ent.to rfl rfl rfl ?_ ?_)
                  · simp -implicitDefEqProofs only [go_sem, Nat.reduceLT, Nat.reduceAdd, Nat.reduceEqDiff, reduceIte, Nat.reduceMul, Nat.reduceSub, reduceCtorEq, Int.reduceNe, Int.reduceEq, ne_eq, Nat.reduceLeDiff, Nat.reduceMod, Nat.reduceDiv]; (try simp only [D.dat.injEq, Vm.Data.int.injEq, true_and, and_true, and_self, eq_self]); (try omega); (try ((repeat' apply And.intro) <;> first | omega | rfl))
                  · (repeat' (first | exact all_nil | exact marks_tail [] rfl (by simp) | (refine all_cons ?_ ?_))) <;> (simp -implicitDefEqProofs only [go_sem, Nat.reduceLT, Nat.reduceAdd, Nat.reduceEqDiff, reduceIte, Nat.reduceMul, Nat.reduceSub, reduceCtorEq, Int.reduceNe, Int.reduceEq, ne_eq, Nat.reduceLeDiff, Nat.reduceMod, Nat.reduceDiv]; (try rfl); skip)
                · intro k hk; (try dsimp only at hk)
                  apply VC.at
                  · simp -implicitDefEqProofs only [go_sem, Nat.reduceLT, Nat.reduceAdd, Nat.reduceEqDiff, reduceIte, Nat.reduceMul, Nat.reduceSub, reduceCtorEq, Int.reduceNe, Int.reduceEq, ne_eq, Nat.reduceLeDiff, Nat.reduceMod, Nat.reduceDiv]; (try simp (disch := omega) only [i64_in, tmodn, tdivn]); exact rfl
                  skip
                  apply VC.regt ΦC_ok [0, 5, 8, 9, 16, 17, 18, 19]; intro K' hK; dsimp only [List.take, List.drop, List.map, strip, stripG]; simp -implicitDefEqProofs only [go_sem, Nat.reduceLT, Nat.reduceAdd, Nat.reduceEqDiff, reduceIte, Nat.reduceMul, Nat.reduceSub, reduceCtorEq, Int.reduceNe, Int.reduceEq, ne_eq, Nat.reduceLeDiff, Nat.reduceMod, Nat.reduceDiv]
                  (repeat' first | (refine hK _ ?_; clear hK K') | with_reducible apply And.intro | (simp -implicitDefEqProofs (disch := omega) only [numsD_at, i64_in, u64_in, List.length_cons, List.length_nil, Nat.reduceAdd]; done) | omega)
                  all_goals
                    apply VC.at
                    · simp -implicitDefEqProofs only [go_sem, Nat.reduceLT, Nat.reduceAdd, Nat.reduceEqDiff, reduceIte, Nat.reduceMul, Nat.reduceSub, reduceCtorEq, Int.reduceNe, Int.reduceEq, ne_eq, Nat.reduceLeDiff, Nat.reduceMod, Nat.reduceDiv]; (try simp (disch := omega) only [i64_in, tmodn, tdivn]); exact rfl
                    apply VC.seq
                    first | (apply VC.condd; (focus (simp -implicitDefEqProofs only [go_sem, Nat.reduceLT, Nat.reduceAdd, Nat.reduceEqDiff, reduceIte, Nat.reduceMul, Nat.reduceSub, reduceCtorEq, Int.reduceNe, Int.reduceEq, ne_eq, Nat.reduceLeDiff, Nat.reduceMod, Nat.reduceDiv]; with_reducible exact rfl))) | (apply VC.condn; (focus (simp -implicitDefEqProofs only [go_sem, Nat.reduceLT, Nat.reduceAdd, Nat.reduceEqDiff, reduceIte, Nat.reduceMul, Nat.reduceSub, reduceCtorEq, Int.reduceNe, Int.reduceEq, ne_eq, Nat.reduceLeDiff, Nat.reduceMod, Nat.reduceDiv]; with_reducible exact rfl))) | (apply VC.condt; (focus (simp -implicitDefEqProofs only [go_sem, Nat.reduceLT, Nat.reduceAdd, Nat.reduceEqDiff, reduceIte, Nat.reduceMul, Nat.reduceSub, reduceCtorEq, Int.reduceNe, Int.reduceEq, ne_eq, Nat.reduceLeDiff, Nat.reduceMod, Nat.reduceDiv]; with_reducible exact rfl))) | (apply VC.condb; (focus (simp -implicitDefEqProofs only [go_sem, Nat.reduceLT, Nat.reduceAdd, Nat.reduceEqDiff, reduceIte, Nat.reduceMul, Nat.reduceSub, reduceCtorEq, Int.reduceNe, Int.reduceEq, ne_eq, Nat.reduceLeDiff, Nat.reduceMod, Nat.reduceDiv]; exact rfl)))
                    · intro h; try exact absurd h (by decide)
                      all_goals
                        apply VC.skip
                        refine thenK_n ?_
                        apply VC.seq
                        apply VC.block
                        have mgk := mg (k + 1) (by omega)
                        apply VC.regt ΦC_ok [0, 5, 6, 7, 8, 9, 16, 17, 18]; intro K' hK; dsimp only [List.take, List.drop, List.map, strip, stripG]; simp -implicitDefEqProofs only [go_sem, Nat.reduceLT, Nat.reduceAdd, Nat.reduceEqDiff, reduceIte, Nat.reduceMul, Nat.reduceSub, reduceCtorEq, Int.reduceNe, Int.reduceEq, ne_eq, Nat.reduceLeDiff, Nat.reduceMod, Nat.reduceDiv]
                        (repeat' first | (refine hK _ ?_; clear hK K') | ((first | with_reducible refine runA_id ?_ | with_reducible refine goA_id ?_); simp -implicitDefEqProofs (disch := omega) only [numsD_at, i64_in, u64_in]; simp -implicitDefEqProofs only [go_sem, Nat.reduceLT, Nat.reduceAdd, Nat.reduceEqDiff, reduceIte, Nat.reduceMul, Nat.reduceSub, reduceCtorEq, Int.reduceNe, Int.reduceEq, ne_eq, Nat.reduceLeDiff, Nat.reduceMod, Nat.reduceDiv]) | with_reducible apply And.intro | (simp -implicitDefEqProofs (disch := omega) only [numsD_at, i64_in, u64_in, List.length_cons, List.length_nil, Nat.reduceAdd]; done) | omega)
                        all_goals
                          apply VC.at
                          · simp -implicitDefEqProofs only [go_sem, Nat.reduceLT, Nat.reduceAdd, Nat.reduceEqDiff, reduceIte, Nat.reduceMul, Nat.reduceSub, reduceCtorEq, Int.reduceNe, Int.reduceEq, ne_eq, Nat.reduceLeDiff, Nat.reduceMod, Nat.reduceDiv]; (try simp (disch := omega) only [i64_in, tmodn, tdivn]); exact rfl
                          refine VC.cutP (ι := Unit) [0, 5, 16, 17, 18] (fun i => [(7, .dat (.int .u64 ((num l k : Nat) : Int)))]) (fun _ => (1, .cells [.sl 2 0 (encN l k).length] false) :: (2, .arr 5 1 (bytesD (encN l k)) 0) :: marksH k) (fun i => True) ?_ ?_
                          · apply VC.regt ΦC_ok [0, 5, 7, 8, 9, 16, 17, 18, 24]; intro K' hK; dsimp only [List.take, List.drop, List.map, strip, stripG]; simp -implicitDefEqProofs only [go_sem, Nat.reduceLT, Nat.reduceAdd, Nat.reduceEqDiff, reduceIte, Nat.reduceMul, Nat.reduceSub, reduceCtorEq, Int.reduceNe, Int.reduceEq, ne_eq, Nat.reduceLeDiff, Nat.reduceMod, Nat.reduceDiv]
                            (repeat' first | (refine hK _ ?_; clear hK K') | with_reducible apply And.intro | (simp -implicitDefEqProofs (disch := omega) only [numsD_at, i64_in, u64_in, List.length_cons, List.length_nil, Nat.reduceAdd]; done) | omega)
                            all_goals
                              apply VC.at
                              · simp -implicitDefEqProofs only [go_sem, Nat.reduceLT, Nat.reduceAdd, Nat.reduceEqDiff, reduceIte, Nat.reduceMul, Nat.reduceSub, reduceCtorEq, Int.reduceNe, Int.reduceEq, ne_eq, Nat.reduceLeDiff, Nat.reduceMod, Nat.reduceDiv]; (try simp (disch := omega) only [i64_in, tmodn, tdivn]); exact rfl
                              first | (apply VC.condd; (focus (simp -implicitDefEqProofs only [go_sem, Nat.reduceLT, Nat.reduceAdd, Nat.reduceEqDiff, reduceIte, Nat.reduceMul, Nat.reduceSub, reduceCtorEq, Int.reduceNe, Int.reduceEq, ne_eq, Nat.reduceLeDiff, Nat.reduceMod, Nat.reduceDiv]; with_reducible exact rfl))) | (apply VC.condn; (focus (simp -implicitDefEqProofs only [go_sem, Nat.reduceLT, Nat.reduceAdd, Nat.reduceEqDiff, reduceIte, Nat.reduceMul, Nat.reduceSub, reduceCtorEq, Int.reduceNe, Int.reduceEq, ne_eq, Nat.reduceLeDiff, Nat.reduceMod, Nat.reduceDiv]; with_reducible exact rfl))) | (apply VC.condt; (focus (simp -implicitDefEqProofs only [go_sem, Nat.reduceLT, Nat.reduceAdd, Nat.reduceEqDiff, reduceIte, Nat.reduceMul, Nat.reduceSub, reduceCtorEq, Int.reduceNe, Int.reduceEq, ne_eq, Nat.reduceLeDiff, Nat.reduceMod, Nat.reduceDiv]; with_reducible exact rfl))) | (apply VC.condb; (focus (simp -implicitDefEqProofs only [go_sem, Nat.reduceLT, Nat.reduceAdd, Nat.reduceEqDiff, reduceIte, Nat.reduceMul, Nat.reduceSub, reduceCtorEq, Int.reduceNe, Int.reduceEq, ne_eq, Nat.reduceLeDiff, Nat.reduceMod, Nat.reduceDiv]; exact rfl)))
                              · intro h; try exact absurd h (by decide)
                                all_goals
                                  apply VC.regLast ΦC_ok; intro K' hK; dsimp only [List.take, List.drop, List.map, strip, stripG]; simp -implicitDefEqProofs only [go_sem, Nat.reduceLT, Nat.reduceAdd, Nat.reduceEqDiff, reduceIte, Nat.reduceMul, Nat.reduceSub, reduceCtorEq, Int.reduceNe, Int.reduceEq, ne_eq, Nat.reduceLeDiff, Nat.reduceMod, Nat.reduceDiv]
                                  (repeat' first | (refine hK _ ?_; clear hK K') | ((first | with_reducible refine runA_id ?_ | with_reducible refine goA_id ?_); simp -implicitDefEqProofs (disch := omega) only [numsD_at, i64_in, u64_in]; simp -implicitDefEqProofs only [go_sem, Nat.reduceLT, Nat.reduceAdd, Nat.reduceEqDiff, reduceIte, Nat.reduceMul, Nat.reduceSub, reduceCtorEq, Int.reduceNe, Int.reduceEq, ne_eq, Nat.reduceLeDiff, Nat.reduceMod, Nat.reduceDiv]) | with_reducible apply And.intro | (simp -implicitDefEqProofs (disch := omega) only [numsD_at, i64_in, u64_in, List.length_cons, List.length_nil, Nat.reduceAdd]; done) | omega)
                                  all_goals
                                    refine thenK_n ?_
                                    refine ⟨(), trivial, Ent.to rfl rfl rfl ?_ ?_⟩
                                    · simp -implicitDefEqProofs only [go_sem, Nat.reduceLT, Nat.reduceAdd, Nat.reduceEqDiff, reduceIte, Nat.reduceMul, Nat.reduceSub, reduceCtorEq, Int.reduceNe, Int.reduceEq, ne_eq, Nat.reduceLeDiff, Nat.reduceMod, Nat.reduceDiv]; (try simp only [D.dat.injEq, Vm.Data.int.injEq, true_and, and_true, and_self, eq_self]); first | (rw [num_zero l k (by omega)]; simp (disch := omega) only [u64_in]; omega) | rw [num_pos l k (by omega)]
                                    · (repeat' (first | exact all_nil | exact marks_tail [_, _] rfl (by simp) | (refine all_cons ?_ ?_))) <;> (simp -implicitDefEqProofs only [go_sem, Nat.reduceLT, Nat.reduceAdd, Nat.reduceEqDiff, reduceIte, Nat.reduceMul, Nat.reduceSub, reduceCtorEq, Int.reduceNe, Int.reduceEq, ne_eq, Nat.reduceLeDiff, Nat.reduceMod, Nat.reduceDiv]; (try rfl); skip)
                              · intro h; try exact absurd h (by decide)
                                all_goals
                                  apply VC.skip
                                  refine thenK_n ?_
                                  refine ⟨(), trivial, Ent.to rfl rfl rfl ?_ ?_⟩
                                  · simp -implicitDefEqProofs only [go_sem, Nat.reduceLT, Nat.reduceAdd, Nat.reduceEqDiff, reduceIte, Nat.reduceMul, Nat.reduceSub, reduceCtorEq, Int.reduceNe, Int.reduceEq, ne_eq, Nat.reduceLeDiff, Nat.reduceMod, Nat.reduceDiv]; (try simp only [D.dat.injEq, Vm.Data.int.injEq, true_and, and_true, and_self, eq_self]); first | (rw [num_zero l k (by omega)]; simp (disch := omega) only [u64_in]; omega) | rw [num_pos l k (by omega)]
                                  · (repeat' (first | exact all_nil | exact marks_tail [_, _] rfl (by simp) | (refine all_cons ?_ ?_))) <;> (simp -implicitDefEqProofs only [go_sem, Nat.reduceLT, Nat.reduceAdd, Nat.reduceEqDiff, reduceIte, Nat.reduceMul, Nat.reduceSub, reduceCtorEq, Int.reduceNe, Int.reduceEq, ne_eq, Nat.reduceLeDiff, Nat.reduceMod, Nat.reduceDiv]; (try rfl); skip)
                          rintro ⟨⟩ -
                          apply VC.at
                          · simp -implicitDefEqProofs only [go_sem, Nat.reduceLT, Nat.reduceAdd, Nat.reduceEqDiff, reduceIte, Nat.reduceMul, Nat.reduceSub, reduceCtorEq, Int.reduceNe, Int.reduceEq, ne_eq, Nat.reduceLeDiff, Nat.reduceMod, Nat.reduceDiv]; (try simp (disch := omega) only [i64_in, tmodn, tdivn]); exact rfl
                          apply VC.regt ΦC_ok [0, 5, 8, 9, 16, 17, 18, 32]; intro K' hK; dsimp only [List.take, List.drop, List.map, strip, stripG]; simp -implicitDefEqProofs only [go_sem, Nat.reduceLT, Nat.reduceAdd, Nat.reduceEqDiff, reduceIte, Nat.reduceMul, Nat.reduceSub, reduceCtorEq, Int.reduceNe, Int.reduceEq, ne_eq, Nat.reduceLeDiff, Nat.reduceMod, Nat.reduceDiv]
                          refine VCcall.enter (E := E) (g := 33) (fn := Tryd.f33) (rs := [.tmp 2]) (n := 4) Tryd.func33 rfl rfl rfl ?_ ?_
                          · exact Nat.le_of_ble_eq_true rfl
                          apply VC.at
                          · simp -implicitDefEqProofs only [go_sem, Nat.reduceLT, Nat.reduceAdd, Nat.reduceEqDiff, reduceIte, Nat.reduceMul, Nat.reduceSub, reduceCtorEq, Int.reduceNe, Int.reduceEq, ne_eq, Nat.reduceLeDiff, Nat.reduceMod, Nat.reduceDiv]; exact rfl
                          apply VC.regt ΦC_ok [1]; intro K' hK; dsimp only [List.take, List.drop, List.map, strip, stripG]; simp -implicitDefEqProofs only [go_sem, Nat.reduceLT, Nat.reduceAdd, Nat.reduceEqDiff, reduceIte, Nat.reduceMul, Nat.reduceSub, reduceCtorEq, Int.reduceNe, Int.reduceEq, ne_eq, Nat.reduceLeDiff, Nat.reduceMod, Nat.reduceDiv]
                          (repeat' first | (refine hK _ ?_; clear hK K') | with_reducible apply And.intro | (simp -implicitDefEqProofs (disch := omega) only [numsD_at, i64_in, u64_in, List.length_cons, List.length_nil, Nat.reduceAdd]; done) | omega)
                          all_goals
                            apply VC.at
                            · simp -implicitDefEqProofs only [go_sem, Nat.reduceLT, Nat.reduceAdd, Nat.reduceEqDiff, reduceIte, Nat.reduceMul, Nat.reduceSub, reduceCtorEq, Int.reduceNe, Int.reduceEq, ne_eq, Nat.reduceLeDiff, Nat.reduceMod, Nat.reduceDiv]; (try simp (disch := omega) only [i64_in, tmodn, tdivn]); exact rfl
                            apply VC.regt ΦC_ok [2]; intro K' hK; dsimp only [List.take, List.drop, List.map, strip, stripG]; simp -implicitDefEqProofs only [go_sem, Nat.reduceLT, Nat.reduceAdd, Nat.reduceEqDiff, reduceIte, Nat.reduceMul, Nat.reduceSub, reduceCtorEq, Int.reduceNe, Int.reduceEq, ne_eq, Nat.reduceLeDiff, Nat.reduceMod, Nat.reduceDiv]
                            (repeat' first | (refine hK _ ?_; clear hK K') | with_reducible apply And.intro | (simp -implicitDefEqProofs (disch := omega) only [numsD_at, i64_in, u64_in, List.length_cons, List.length_nil, Nat.reduceAdd]; done) | omega)
                            all_goals
                              apply VC.at
                              · simp -implicitDefEqProofs only [go_sem, Nat.reduceLT, Nat.reduceAdd, Nat.reduceEqDiff, reduceIte, Nat.reduceMul, Nat.reduceSub, reduceCtorEq, Int.reduceNe, Int.reduceEq, ne_eq, Nat.reduceLeDiff, Nat.reduceMod, Nat.reduceDiv]; (try simp (disch := omega) only [i64_in, tmodn, tdivn]); exact rfl
                              apply VC.ret
                              simp -implicitDefEqProofs only [go_sem, Nat.reduceLT, Nat.reduceAdd, Nat.reduceEqDiff, reduceIte, Nat.reduceMul, Nat.reduceSub, reduceCtorEq, Int.reduceNe, Int.reduceEq, ne_eq, Nat.reduceLeDiff, Nat.reduceMod, Nat.reduceDiv]
                              (repeat' first | (refine hK _ ?_; clear hK K') | ((first | with_reducible refine runA_id ?_ | with_reducible refine goA_id ?_); simp -implicitDefEqProofs (disch := omega) only [numsD_at, i64_in, u64_in]; simp -implicitDefEqProofs only [go_sem, Nat.reduceLT, Nat.reduceAdd, Nat.reduceEqDiff, reduceIte, Nat.reduceMul, Nat.reduceSub, reduceCtorEq, Int.reduceNe, Int.reduceEq, ne_eq, Nat.reduceLeDiff, Nat.reduceMod, Nat.reduceDiv]) | with_reducible apply And.intro | (simp -implicitDefEqProofs (disch := omega) only [numsD_at, i64_in, u64_in, List.length_cons, List.length_nil, Nat.reduceAdd]; done) | omega)
                              all_goals
                                apply VC.at
                                · simp -implicitDefEqProofs only [go_sem, Nat.reduceLT, Nat.reduceAdd, Nat.reduceEqDiff, reduceIte, Nat.reduceMul, Nat.reduceSub, reduceCtorEq, Int.reduceNe, Int.reduceEq, ne_eq, Nat.reduceLeDiff, Nat.reduceMod, Nat.reduceDiv]; (try simp (disch := omega) only [i64_in, tmodn, tdivn]); exact rfl
                                apply VC.block
                                refine VC.rangeO (f := 45) (ys := [.ref 3 0]) (100 + k) 4 (by omega) ?_ ?_ ?_ (by kernel_rfl) ?_ ?_
                                · simp -implicitDefEqProofs only [go_sem, Nat.reduceLT, Nat.reduceAdd, Nat.reduceEqDiff, reduceIte, Nat.reduceMul, Nat.reduceSub, reduceCtorEq, Int.reduceNe, Int.reduceEq, ne_eq, Nat.reduceLeDiff, Nat.reduceMod, Nat.reduceDiv]
                                · simp -implicitDefEqProofs only [go_sem, Nat.reduceLT, Nat.reduceAdd, Nat.reduceEqDiff, reduceIte, Nat.reduceMul, Nat.reduceSub, reduceCtorEq, Int.reduceNe, Int.reduceEq, ne_eq, Nat.reduceLeDiff, Nat.reduceMod, Nat.reduceDiv]
                                · simp -implicitDefEqProofs only [go_sem, Nat.reduceLT, Nat.reduceAdd, Nat.reduceEqDiff, reduceIte, Nat.reduceMul, Nat.reduceSub, reduceCtorEq, Int.reduceNe, Int.reduceEq, ne_eq, Nat.reduceLeDiff, Nat.reduceMod, Nat.reduceDiv]
                                · intro A B; simp -implicitDefEqProofs only [go_sem, Nat.reduceLT, Nat.reduceAdd, Nat.reduceEqDiff, reduceIte, Nat.reduceMul, Nat.reduceSub, reduceCtorEq, Int.reduceNe, Int.reduceEq, ne_eq, Nat.reduceLeDiff, Nat.reduceMod, Nat.reduceDiv]
                                · intro A B hA hB
                                  refine VCcall.enter (E := E) (g := 45) (fn := Tryd.f45) (rs := []) (n := 26) Tryd.func45 rfl rfl rfl ?_ ?_
                                  · exact Nat.le_of_ble_eq_true rfl
                                  apply VC.at
                                  · simp -implicitDefEqProofs only [go_sem, Nat.reduceLT, Nat.reduceAdd, Nat.reduceEqDiff, reduceIte, Nat.reduceMul, Nat.reduceSub, reduceCtorEq, Int.reduceNe, Int.reduceEq, ne_eq, Nat.reduceLeDiff, Nat.reduceMod, Nat.reduceDiv]; exact rfl
                                  apply VC.scope
                                  apply VC.seq
                                  apply VC.label
                                  refine thenK_n ?_
                                  apply VC.regt ΦC_ok [0, 1, 3]; intro K' hK; dsimp only [List.take, List.drop, List.map, strip, stripG]; simp -implicitDefEqProofs only [go_sem, Nat.reduceLT, Nat.reduceAdd, Nat.reduceEqDiff, reduceIte, Nat.reduceMul, Nat.reduceSub, reduceCtorEq, Int.reduceNe, Int.reduceEq, ne_eq, Nat.reduceLeDiff, Nat.reduceMod, Nat.reduceDiv]
                                  (repeat' first | (refine hK _ ?_; clear hK K') | with_reducible apply And.intro | omega)
                                  all_goals
                                    apply VC.at
                                    · simp -implicitDefEqProofs only [go_sem, Nat.reduceLT, Nat.reduceAdd, Nat.reduceEqDiff, reduceIte, Nat.reduceMul, Nat.reduceSub, reduceCtorEq, Int.reduceNe, Int.reduceEq, ne_eq, Nat.reduceLeDiff, Nat.reduceMod, Nat.reduceDiv]; (try simp (disch := omega) only [i64_in, tmodn, tdivn]); exact rfl
                                    apply VC.block
                                    refine VC.loopS (ι := Nat) [0, 1] (fun j => [(3, .dat (.int .i64 (63 - 7 * (j : Int))))]) (fun j => [(1, .cells [.sl 2 0 (encN l k ++ encTo (num l k) j).length] false), (2, .arr 5 1 (bytesD (encN l k ++ encTo (num l k) j)) 0)]) (fun j => j ≤ 10) (fun j => 10 - j) 0 (Nat.zero_le _) ?_ ?_
                                    · refine Ent.to rfl rfl rfl ?_ ?_
                                      · simp -implicitDefEqProofs only [go_sem, Nat.reduceLT, Nat.reduceAdd, Nat.reduceEqDiff, reduceIte, Nat.reduceMul, Nat.reduceSub, reduceCtorEq, Int.reduceNe, Int.reduceEq, ne_eq, Nat.reduceLeDiff, Nat.reduceMod, Nat.reduceDiv]; (try simp only [D.dat.injEq, Vm.Data.int.injEq, true_and, and_true, and_self, eq_self]); (try omega); (try ((repeat' apply And.intro) <;> first | omega | rfl))
                                      · apply all_at
                                        · simp -implicitDefEqProofs only [go_sem, Nat.reduceLT, Nat.reduceAdd, Nat.reduceEqDiff, reduceIte, Nat.reduceMul, Nat.reduceSub, reduceCtorEq, Int.reduceNe, Int.reduceEq, ne_eq, Nat.reduceLeDiff, Nat.reduceMod, Nat.reduceDiv]; simp only [encTo_zero, List.append_nil]; exact rfl
                                        · (repeat' (first | exact all_nil | exact marks_tail [_, _, _, _, _] rfl (by simp) | (refine all_cons ?_ ?_))) <;> (simp -implicitDefEqProofs only [go_sem, Nat.reduceLT, Nat.reduceAdd, Nat.reduceEqDiff, reduceIte, Nat.reduceMul, Nat.reduceSub, reduceCtorEq, Int.reduceNe, Int.reduceEq, ne_eq, Nat.reduceLeDiff, Nat.reduceMod, Nat.reduceDiv]; (try rfl); skip)
                                    · intro j hj; (try dsimp only at hj)
                                      have hb : (encN l k ++ encTo (num l k) j).length ≤ 300 := by
                                        have := encN_len l k; have := encTo_len (num l k) j; rw [List.length_append]; omega
                                      apply VC.at
                                      · simp -implicitDefEqProofs only [go_sem, Nat.reduceLT, Nat.reduceAdd, Nat.reduceEqDiff, reduceIte, Nat.reduceMul, Nat.reduceSub, reduceCtorEq, Int.reduceNe, Int.reduceEq, ne_eq, Nat.reduceLeDiff, Nat.reduceMod, Nat.reduceDiv]; (try simp (disch := omega) only [i64_in, tmodn, tdivn]); exact rfl
                                      apply VC.seq
                                      apply VC.regt ΦC_ok [0, 1, 3, 5]; intro K' hK; dsimp only [List.take, List.drop, List.map, strip, stripG]; simp -implicitDefEqProofs only [go_sem, Nat.reduceLT, Nat.reduceAdd, Nat.reduceEqDiff, reduceIte, Nat.reduceMul, Nat.reduceSub, reduceCtorEq, Int.reduceNe, Int.reduceEq, ne_eq, Nat.reduceLeDiff, Nat.reduceMod, Nat.reduceDiv]
                                      (repeat' first | (refine hK _ ?_; clear hK K') | with_reducible apply And.intro | omega)
                                      all_goals
                                        apply VC.at
                                        · simp -implicitDefEqProofs only [go_sem, Nat.reduceLT, Nat.reduceAdd, Nat.reduceEqDiff, reduceIte, Nat.reduceMul, Nat.reduceSub, reduceCtorEq, Int.reduceNe, Int.reduceEq, ne_eq, Nat.reduceLeDiff, Nat.reduceMod, Nat.reduceDiv]; (try simp (disch := omega) only [i64_in, tmodn, tdivn]); exact rfl
                                        first | (apply VC.condd; (focus (simp -implicitDefEqProofs only [go_sem, Nat.reduceLT, Nat.reduceAdd, Nat.reduceEqDiff, reduceIte, Nat.reduceMul, Nat.reduceSub, reduceCtorEq, Int.reduceNe, Int.reduceEq, ne_eq, Nat.reduceLeDiff, Nat.reduceMod, Nat.reduceDiv]; with_reducible exact rfl))) | (apply VC.condn; (focus (simp -implicitDefEqProofs only [go_sem, Nat.reduceLT, Nat.reduceAdd, Nat.reduceEqDiff, reduceIte, Nat.reduceMul, Nat.reduceSub, reduceCtorEq, Int.reduceNe, Int.reduceEq, ne_eq, Nat.reduceLeDiff, Nat.reduceMod, Nat.reduceDiv]; with_reducible exact rfl))) | (apply VC.condt; (focus (simp -implicitDefEqProofs only [go_sem, Nat.reduceLT, Nat.reduceAdd, Nat.reduceEqDiff, reduceIte, Nat.reduceMul, Nat.reduceSub, reduceCtorEq, Int.reduceNe, Int.reduceEq, ne_eq, Nat.reduceLeDiff, Nat.reduceMod, Nat.reduceDiv]; with_reducible exact rfl))) | (apply VC.condb; (focus (simp -implicitDefEqProofs only [go_sem, Nat.reduceLT, Nat.reduceAdd, Nat.reduceEqDiff, reduceIte, Nat.reduceMul, Nat.reduceSub, reduceCtorEq, Int.reduceNe, Int.reduceEq, ne_eq, Nat.reduceLeDiff, Nat.reduceMod, Nat.reduceDiv]; exact rfl)))
                                        · intro h; try exact absurd h (by decide)
                                          all_goals
                                            apply VC.skip
                                            refine thenK_n ?_
                                            apply VC.seq
                                            apply VC.block
                                            apply VC.seq
                                            apply VC.regt ΦC_ok [0, 1, 3, 15]; intro K' hK; dsimp only [List.take, List.drop, List.map, strip, stripG]; simp only [gtmp, List.getElem?_toArray, List.getElem?_cons_succ, List.getElem?_cons_zero, Option.bind_some]; simp -implicitDefEqProofs only [go_sem, Nat.reduceLT, Nat.reduceAdd, Nat.reduceEqDiff, reduceIte, Nat.reduceMul, Nat.reduceSub, reduceCtorEq, Int.reduceNe, Int.reduceEq, ne_eq, Nat.reduceLeDiff, Nat.reduceMod, Nat.reduceDiv]
                                            (repeat' first | (refine hK _ ?_; clear hK K') | (first | apply goB_splitD | apply goA_splitD | apply goB_split | apply goA_split | apply goA_all) <;> intro _ <;> simp -implicitDefEqProofs only [go_sem, Nat.reduceLT, Nat.reduceAdd, Nat.reduceEqDiff, reduceIte, Nat.reduceMul, Nat.reduceSub, reduceCtorEq, Int.reduceNe, Int.reduceEq, ne_eq, Nat.reduceLeDiff, Nat.reduceMod, Nat.reduceDiv] | with_reducible apply And.intro | omega)
                                            all_goals
                                              apply VC.at
                                              · simp -implicitDefEqProofs only [go_sem, Nat.reduceLT, Nat.reduceAdd, Nat.reduceEqDiff, reduceIte, Nat.reduceMul, Nat.reduceSub, reduceCtorEq, Int.reduceNe, Int.reduceEq, ne_eq, Nat.reduceLeDiff, Nat.reduceMod, Nat.reduceDiv]; (try simp (disch := omega) only [i64_in, tmodn, tdivn]); (try simp (disch := omega) only [shr_at, low7]); exact rfl
                                              first | (apply VC.condd; (focus (simp -implicitDefEqProofs only [go_sem, Nat.reduceLT, Nat.reduceAdd, Nat.reduceEqDiff, reduceIte, Nat.reduceMul, Nat.reduceSub, reduceCtorEq, Int.reduceNe, Int.reduceEq, ne_eq, Nat.reduceLeDiff, Nat.reduceMod, Nat.reduceDiv]; with_reducible exact rfl))) | (apply VC.condn; (focus (simp -implicitDefEqProofs only [go_sem, Nat.reduceLT, Nat.reduceAdd, Nat.reduceEqDiff, reduceIte, Nat.reduceMul, Nat.reduceSub, reduceCtorEq, Int.reduceNe, Int.reduceEq, ne_eq, Nat.reduceLeDiff, Nat.reduceMod, Nat.reduceDiv]; with_reducible exact rfl))) | (apply VC.condt; (focus (simp -implicitDefEqProofs only [go_sem, Nat.reduceLT, Nat.reduceAdd, Nat.reduceEqDiff, reduceIte, Nat.reduceMul, Nat.reduceSub, reduceCtorEq, Int.reduceNe, Int.reduceEq, ne_eq, Nat.reduceLeDiff, Nat.reduceMod, Nat.reduceDiv]; with_reducible exact rfl))) | (apply VC.condb; (focus (simp -implicitDefEqProofs only [go_sem, Nat.reduceLT, Nat.reduceAdd, Nat.reduceEqDiff, reduceIte, Nat.reduceMul, Nat.reduceSub, reduceCtorEq, Int.reduceNe, Int.reduceEq, ne_eq, Nat.reduceLeDiff, Nat.reduceMod, Nat.reduceDiv]; exact rfl)))
                                              · intro h; try exact absurd h (by decide)
                                                all_goals
                                                  apply VC.exit
                                                  refine thenK_e ?_
                                                  refine blockK_e ?_
                                                  refine thenK_n ?_
                                                  apply VC.regLast ΦC_ok; intro K' hK; dsimp only [List.take, List.drop, List.map, strip, stripG]; simp -implicitDefEqProofs only [go_sem, Nat.reduceLT, Nat.reduceAdd, Nat.reduceEqDiff, reduceIte, Nat.reduceMul, Nat.reduceSub, reduceCtorEq, Int.reduceNe, Int.reduceEq, ne_eq, Nat.reduceLeDiff, Nat.reduceMod, Nat.reduceDiv]
                                                  (repeat' first | (refine hK _ ?_; clear hK K') | with_reducible apply And.intro | omega)
                                                  all_goals
                                                    refine thenK_n ?_
                                                    have eg : encTo (num l k) (j + 1) = encTo (num l k) j ++ grp (num l k) j := encTo_succ _ _
                                                    first | rw [grp_skip (by omega) (Int.ofNat.inj h), List.append_nil] at eg | rw [grp_more (by omega) (fun e => (by assumption : ¬ ((num l k / 2 ^ (63 - 7 * j) : Nat) : Int) = 0) (by rw [e]; rfl))] at eg | rw [grp_last (by omega)] at eg
                                                    refine ⟨j + 1, by omega, Ent.to rfl rfl rfl ?_ ?_, by omega⟩
                                                    · simp -implicitDefEqProofs only [go_sem, Nat.reduceLT, Nat.reduceAdd, Nat.reduceEqDiff, reduceIte, Nat.reduceMul, Nat.reduceSub, reduceCtorEq, Int.reduceNe, Int.reduceEq, ne_eq, Nat.reduceLeDiff, Nat.reduceMod, Nat.reduceDiv]; (try simp (disch := omega) only [i64_in, tmodn, tdivn]); (try simp only [D.dat.injEq, Vm.Data.int.injEq, true_and, and_true, and_self, eq_self]); (try omega); (try ((repeat' apply And.intro) <;> first | omega | rfl))
                                                    · apply all_at
                                                      · simp -implicitDefEqProofs only [go_sem, Nat.reduceLT, Nat.reduceAdd, Nat.reduceEqDiff, reduceIte, Nat.reduceMul, Nat.reduceSub, reduceCtorEq, Int.reduceNe, Int.reduceEq, ne_eq, Nat.reduceLeDiff, Nat.reduceMod, Nat.reduceDiv]; (try simp only [eg]); first | done | exact rfl
                                                      · (repeat' (first | exact all_nil | exact marks_tail [_, _, _, _, _] rfl (by simp) | exact marks_tail [_, _, _, _, _, _] rfl (by simp) | (refine all_cons ?_ ?_))) <;> (simp -implicitDefEqProofs only [go_sem, Nat.reduceLT, Nat.reduceAdd, Nat.reduceEqDiff, reduceIte, Nat.reduceMul, Nat.reduceSub, reduceCtorEq, Int.reduceNe, Int.reduceEq, ne_eq, Nat.reduceLeDiff, Nat.reduceMod, Nat.reduceDiv]; (try rfl); try first | rfl | (simp [List.length_append, Nat.add_assoc]; done) | (simp only [high]; rw [byte_snoc8, List.append_assoc]; done) | (rw [byte_snoc7, List.append_assoc]; done))
                                              · intro h; try exact absurd h (by decide)
                                                all_goals
                                                  apply VC.skip
                                                  refine thenK_n ?_
                                                  apply VC.regt ΦC_ok [0, 1, 3, 25]; intro K' hK; dsimp only [List.take, List.drop, List.map, strip, stripG]; simp -implicitDefEqProofs only [go_sem, Nat.reduceLT, Nat.reduceAdd, Nat.reduceEqDiff, reduceIte, Nat.reduceMul, Nat.reduceSub, reduceCtorEq, Int.reduceNe, Int.reduceEq, ne_eq, Nat.reduceLeDiff, Nat.reduceMod, Nat.reduceDiv]
                                                  refine ⟨by omega, ?_⟩
                                                  apply VCyield.round
                                                  · simp -implicitDefEqProofs only [go_sem, Nat.reduceLT, Nat.reduceAdd, Nat.reduceEqDiff, reduceIte, Nat.reduceMul, Nat.reduceSub, reduceCtorEq, Int.reduceNe, Int.reduceEq, ne_eq, Nat.reduceLeDiff, Nat.reduceMod, Nat.reduceDiv]; exact rfl
                                                  · rfl
                                                  · decide
                                                  refine VC.code hA ?_
                                                  apply VC.at
                                                  · simp -implicitDefEqProofs only [go_sem, Nat.reduceLT, Nat.reduceAdd, Nat.reduceEqDiff, reduceIte, Nat.reduceMul, Nat.reduceSub, reduceCtorEq, Int.reduceNe, Int.reduceEq, ne_eq, Nat.reduceLeDiff, Nat.reduceMod, Nat.reduceDiv]; (try simp (disch := omega) only [shr_at, low7]); exact rfl
                                                  apply VC.regt ΦC_ok [5, 8, 34]; intro K' hK; dsimp only [List.take, List.drop, List.map, strip, stripG]; simp -implicitDefEqProofs only [go_sem, Nat.reduceLT, Nat.reduceAdd, Nat.reduceEqDiff, reduceIte, Nat.reduceMul, Nat.reduceSub, reduceCtorEq, Int.reduceNe, Int.reduceEq, ne_eq, Nat.reduceLeDiff, Nat.reduceMod, Nat.reduceDiv]
                                                  (repeat' first | (refine hK _ ?_; clear hK K') | with_reducible apply And.intro | (simp only [maxLen]; omega) | omega)
                                                  all_goals
                                                    apply VC.at
                                                    · simp -implicitDefEqProofs only [go_sem, Nat.reduceLT, Nat.reduceAdd, Nat.reduceEqDiff, reduceIte, Nat.reduceMul, Nat.reduceSub, reduceCtorEq, Int.reduceNe, Int.reduceEq, ne_eq, Nat.reduceLeDiff, Nat.reduceMod, Nat.reduceDiv]; (try simp (disch := omega) only [i64_in, tmodn, tdivn]); exact rfl
                                                    apply VC.regLast ΦC_ok; intro K' hK; dsimp only [List.take, List.drop, List.map, strip, stripG]; simp -implicitDefEqProofs only [go_sem, Nat.reduceLT, Nat.reduceAdd, Nat.reduceEqDiff, reduceIte, Nat.reduceMul, Nat.reduceSub, reduceCtorEq, Int.reduceNe, Int.reduceEq, ne_eq, Nat.reduceLeDiff, Nat.reduceMod, Nat.reduceDiv]
                                                    (repeat' first | (refine hK _ ?_; clear hK K') | with_reducible apply And.intro | (simp only [maxLen]; omega) | omega)
                                                    all_goals
                                                      simp -implicitDefEqProofs only [go_sem, Nat.reduceLT, Nat.reduceAdd, Nat.reduceEqDiff, reduceIte, Nat.reduceMul, Nat.reduceSub, reduceCtorEq, Int.reduceNe, Int.reduceEq, ne_eq, Nat.reduceLeDiff, Nat.reduceMod, Nat.reduceDiv]
                                                      refine VC.code hB ?_
                                                      apply VC.block
                                                      apply VC.seq
                                                      apply VC.regt ΦC_ok [5, 8, 36]; intro K' hK; dsimp only [List.take, List.drop, List.map, strip, stripG]; simp -implicitDefEqProofs only [go_sem, Nat.reduceLT, Nat.reduceAdd, Nat.reduceEqDiff, reduceIte, Nat.reduceMul, Nat.reduceSub, reduceCtorEq, Int.reduceNe, Int.reduceEq, ne_eq, Nat.reduceLeDiff, Nat.reduceMod, Nat.reduceDiv]
                                                      (repeat' first | (refine hK _ ?_; clear hK K') | with_reducible apply And.intro | (simp only [maxLen]; omega) | omega)
                                                      all_goals
                                                        apply VC.at
                                                        · simp -implicitDefEqProofs only [go_sem, Nat.reduceLT, Nat.reduceAdd, Nat.reduceEqDiff, reduceIte, Nat.reduceMul, Nat.reduceSub, reduceCtorEq, Int.reduceNe, Int.reduceEq, ne_eq, Nat.reduceLeDiff, Nat.reduceMod, Nat.reduceDiv]; (try simp (disch := omega) only [i64_in, tmodn, tdivn]); exact rfl
                                                        first | (apply VC.condd; (focus (simp -implicitDefEqProofs only [go_sem, Nat.reduceLT, Nat.reduceAdd, Nat.reduceEqDiff, reduceIte, Nat.reduceMul, Nat.reduceSub, reduceCtorEq, Int.reduceNe, Int.reduceEq, ne_eq, Nat.reduceLeDiff, Nat.reduceMod, Nat.reduceDiv]; with_reducible exact rfl))) | (apply VC.condn; (focus (simp -implicitDefEqProofs only [go_sem, Nat.reduceLT, Nat.reduceAdd, Nat.reduceEqDiff, reduceIte, Nat.reduceMul, Nat.reduceSub, reduceCtorEq, Int.reduceNe, Int.reduceEq, ne_eq, Nat.reduceLeDiff, Nat.reduceMod, Nat.reduceDiv]; with_reducible exact rfl))) | (apply VC.condt; (focus (simp -implicitDefEqProofs only [go_sem, Nat.reduceLT, Nat.reduceAdd, Nat.reduceEqDiff, reduceIte, Nat.reduceMul, Nat.reduceSub, reduceCtorEq, Int.reduceNe, Int.reduceEq, ne_eq, Nat.reduceLeDiff, Nat.reduceMod, Nat.reduceDiv]; with_reducible exact rfl))) | (apply VC.condb; (focus (simp -implicitDefEqProofs only [go_sem, Nat.reduceLT, Nat.reduceAdd, Nat.reduceEqDiff, reduceIte, Nat.reduceMul, Nat.reduceSub, reduceCtorEq, Int.reduceNe, Int.reduceEq, ne_eq, Nat.reduceLeDiff, Nat.reduceMod, Nat.reduceDiv]; exact rfl)))
                                                        · intro h; try exact absurd h (by decide)
                                                          all_goals
                                                            apply VC.regLast ΦC_ok; intro K' hK; dsimp only [List.take, List.drop, List.map, strip, stripG]; simp -implicitDefEqProofs only [go_sem, Nat.reduceLT, Nat.reduceAdd, Nat.reduceEqDiff, reduceIte, Nat.reduceMul, Nat.reduceSub, reduceCtorEq, Int.reduceNe, Int.reduceEq, ne_eq, Nat.reduceLeDiff, Nat.reduceMod, Nat.reduceDiv]
                                                            (repeat' first | (refine hK _ ?_; clear hK K') | with_reducible apply And.intro | (simp only [maxLen]; omega) | omega)
                                                            all_goals
                                                              refine thenK_n ?_
                                                              apply VC.regLast ΦC_ok; intro K' hK; dsimp only [List.take, List.drop, List.map, strip, stripG]; simp -implicitDefEqProofs only [go_sem, Nat.reduceLT, Nat.reduceAdd, Nat.reduceEqDiff, reduceIte, Nat.reduceMul, Nat.reduceSub, reduceCtorEq, Int.reduceNe, Int.reduceEq, ne_eq, Nat.reduceLeDiff, Nat.reduceMod, Nat.reduceDiv]
                                                              (repeat' first | (refine hK _ ?_; clear hK K') | with_reducible apply And.intro | (simp only [maxLen]; omega) | omega)
                                                              all_goals
                                                                refine blockK_n ?_
                                                                simp -implicitDefEqProofs only [go_sem, Nat.reduceLT, Nat.reduceAdd, Nat.reduceEqDiff, reduceIte, Nat.reduceMul, Nat.reduceSub, reduceCtorEq, Int.reduceNe, Int.reduceEq, ne_eq, Nat.reduceLeDiff, Nat.reduceMod, Nat.reduceDiv]
                                                                (repeat' first | (refine hK _ ?_; clear hK K') | with_reducible apply And.intro | omega)
                                                                all_goals
                                                                  apply VC.at
                                                                  · simp -implicitDefEqProofs only [go_sem, Nat.reduceLT, Nat.reduceAdd, Nat.reduceEqDiff, reduceIte, Nat.reduceMul, Nat.reduceSub, reduceCtorEq, Int.reduceNe, Int.reduceEq, ne_eq, Nat.reduceLeDiff, Nat.reduceMod, Nat.reduceDiv]; (try simp (disch := omega) only [i64_in, tmodn, tdivn]); (try simp (disch := omega) only [shr_at, low7]); exact rfl
                                                                  first | (apply VC.condd; (focus (simp -implicitDefEqProofs only [go_sem, Nat.reduceLT, Nat.reduceAdd, Nat.reduceEqDiff, reduceIte, Nat.reduceMul, Nat.reduceSub, reduceCtorEq, Int.reduceNe, Int.reduceEq, ne_eq, Nat.reduceLeDiff, Nat.reduceMod, Nat.reduceDiv]; with_reducible exact rfl))) | (apply VC.condn; (focus (simp -implicitDefEqProofs only [go_sem, Nat.reduceLT, Nat.reduceAdd, Nat.reduceEqDiff, reduceIte, Nat.reduceMul, Nat.reduceSub, reduceCtorEq, Int.reduceNe, Int.reduceEq, ne_eq, Nat.reduceLeDiff, Nat.reduceMod, Nat.reduceDiv]; with_reducible exact rfl))) | (apply VC.condt; (focus (simp -implicitDefEqProofs only [go_sem, Nat.reduceLT, Nat.reduceAdd, Nat.reduceEqDiff, reduceIte, Nat.reduceMul, Nat.reduceSub, reduceCtorEq, Int.reduceNe, Int.reduceEq, ne_eq, Nat.reduceLeDiff, Nat.reduceMod, Nat.reduceDiv]; with_reducible exact rfl))) | (apply VC.condb; (focus (simp -implicitDefEqProofs only [go_sem, Nat.reduceLT, Nat.reduceAdd, Nat.reduceEqDiff, reduceIte, Nat.reduceMul, Nat.reduceSub, reduceCtorEq, Int.reduceNe, Int.reduceEq, ne_eq, Nat.reduceLeDiff, Nat.reduceMod, Nat.reduceDiv]; exact rfl)))
                                                                  · intro h; try exact absurd h (by decide)
                                                                    all_goals
                                                                      apply VC.ret
                                                                      refine blockK_r ?_
                                                                      refine thenK_r ?_
                                                                      refine thenK_r ?_
                                                                      refine blockK_r ?_
                                                                      refine scopeK_r ?_
                                                                      simp -implicitDefEqProofs only [go_sem, Nat.reduceLT, Nat.reduceAdd, Nat.reduceEqDiff, reduceIte, Nat.reduceMul, Nat.reduceSub, reduceCtorEq, Int.reduceNe, Int.reduceEq, ne_eq, Nat.reduceLeDiff, Nat.reduceMod, Nat.reduceDiv]
                                                                      apply aftS_n
                                                                      · simp -implicitDefEqProofs only [go_sem, Nat.reduceLT, Nat.reduceAdd, Nat.reduceEqDiff, reduceIte, Nat.reduceMul, Nat.reduceSub, reduceCtorEq, Int.reduceNe, Int.reduceEq, ne_eq, Nat.reduceLeDiff, Nat.reduceMod, Nat.reduceDiv]; exact rfl
                                                                      refine blockK_n ?_
                                                                      refine blockK_n ?_
                                                                      refine thenK_n ?_
                                                                      apply VC.regLast ΦC_ok; intro K' hK; dsimp only [List.take, List.drop, List.map, strip, stripG]; simp -implicitDefEqProofs only [go_sem, Nat.reduceLT, Nat.reduceAdd, Nat.reduceEqDiff, reduceIte, Nat.reduceMul, Nat.reduceSub, reduceCtorEq, Int.reduceNe, Int.reduceEq, ne_eq, Nat.reduceLeDiff, Nat.reduceMod, Nat.reduceDiv]
                                                                      (repeat' first | (refine hK _ ?_; clear hK K') | with_reducible apply And.intro | (simp -implicitDefEqProofs (disch := omega) only [numsD_at, i64_in, u64_in, List.length_cons, List.length_nil, Nat.reduceAdd]; done) | omega)
                                                                      all_goals
                                                                        refine thenK_n ?_
                                                                        have ej : j = 10 := by omega
                                                                        subst ej
                                                                        have ee : encN l k ++ encTo (num l k) 10 = encN l (k + 1) := (encN_succ l k).symm
                                                                        rw [ee]
                                                                        refine ⟨k + 1, by omega, Ent.to rfl (marks_succ k).symm rfl ?_ ?_, by omega⟩
                                                                        · simp -implicitDefEqProofs only [go_sem, Nat.reduceLT, Nat.reduceAdd, Nat.reduceEqDiff, reduceIte, Nat.reduceMul, Nat.reduceSub, reduceCtorEq, Int.reduceNe, Int.reduceEq, ne_eq, Nat.reduceLeDiff, Nat.reduceMod, Nat.reduceDiv]; (try simp (disch := omega) only [i64_in, tmodn, tdivn]); (try simp only [D.dat.injEq, Vm.Data.int.injEq, true_and, and_true, and_self, eq_self]); (try omega); (try ((repeat' apply And.intro) <;> first | omega | rfl))
                                                                        · dsimp only; rw [marksH_succ]; (repeat' (first | exact all_nil | exact marks_tail [_, _, _, _, _] rfl (by simp) | exact marks_tail [_, _, _, _] rfl (by simp) | (refine all_cons ?_ ?_))) <;> (simp -implicitDefEqProofs only [go_sem, Nat.reduceLT, Nat.reduceAdd, Nat.reduceEqDiff, reduceIte, Nat.reduceMul, Nat.reduceSub, reduceCtorEq, Int.reduceNe, Int.reduceEq, ne_eq, Nat.reduceLeDiff, Nat.reduceMod, Nat.reduceDiv]; (try rfl); skip)
                                                                  · intro h; try exact absurd h (by decide)
                                                                    all_goals
                                                                      apply VC.skip
                                                                      refine blockK_n ?_
                                                                      refine thenK_n ?_
                                                                      apply VC.regLast ΦC_ok; intro K' hK; dsimp only [List.take, List.drop, List.map, strip, stripG]; simp -implicitDefEqProofs only [go_sem, Nat.reduceLT, Nat.reduceAdd, Nat.reduceEqDiff, reduceIte, Nat.reduceMul, Nat.reduceSub, reduceCtorEq, Int.reduceNe, Int.reduceEq, ne_eq, Nat.reduceLeDiff, Nat.reduceMod, Nat.reduceDiv]
                                                                      (repeat' first | (refine hK _ ?_; clear hK K') | with_reducible apply And.intro | omega)
                                                                      all_goals
                                                                        refine thenK_n ?_
                                                                        have eg : encTo (num l k) (j + 1) = encTo (num l k) j ++ grp (num l k) j := encTo_succ _ _
                                                                        first | rw [grp_skip (by omega) (Int.ofNat.inj h), List.append_nil] at eg | rw [grp_more (by omega) (fun e => (by assumption : ¬ ((num l k / 2 ^ (63 - 7 * j) : Nat) : Int) = 0) (by rw [e]; rfl))] at eg | rw [grp_last (by omega)] at eg
                                                                        refine ⟨j + 1, by omega, Ent.to rfl rfl rfl ?_ ?_, by omega⟩
                                                                        · simp -implicitDefEqProofs only [go_sem, Nat.reduceLT, Nat.reduceAdd, Nat.reduceEqDiff, reduceIte, Nat.reduceMul, Nat.reduceSub, reduceCtorEq, Int.reduceNe, Int.reduceEq, ne_eq, Nat.reduceLeDiff, Nat.reduceMod, Nat.reduceDiv]; (try simp (disch := omega) only [i64_in, tmodn, tdivn]); (try simp only [D.dat.injEq, Vm.Data.int.injEq, true_and, and_true, and_self, eq_self]); (try omega); (try ((repeat' apply And.intro) <;> first | omega | rfl))
                                                                        · apply all_at
                                                                          · simp -implicitDefEqProofs only [go_sem, Nat.reduceLT, Nat.reduceAdd, Nat.reduceEqDiff, reduceIte, Nat.reduceMul, Nat.reduceSub, reduceCtorEq, Int.reduceNe, Int.reduceEq, ne_eq, Nat.reduceLeDiff, Nat.reduceMod, Nat.reduceDiv]; (try simp only [eg]); first | done | exact rfl
                                                                          · (repeat' (first | exact all_nil | exact marks_tail [_, _, _, _, _] rfl (by simp) | exact marks_tail [_, _, _, _, _, _] rfl (by simp) | (refine all_cons ?_ ?_))) <;> (simp -implicitDefEqProofs only [go_sem, Nat.reduceLT, Nat.reduceAdd, Nat.reduceEqDiff, reduceIte, Nat.reduceMul, Nat.reduceSub, reduceCtorEq, Int.reduceNe, Int.reduceEq, ne_eq, Nat.reduceLeDiff, Nat.reduceMod, Nat.reduceDiv]; (try rfl); try first | rfl | (simp [List.length_append, Nat.add_assoc]; done) | (simp only [high]; rw [byte_snoc8, List.append_assoc]; done) | (rw [byte_snoc7, List.append_assoc]; done))
                                                        · intro h; try exact absurd h (by decide)
                                                          all_goals
                                                            apply VC.skip
                                                            refine thenK_n ?_
                                                            apply VC.regLast ΦC_ok; intro K' hK; dsimp only [List.take, List.drop, List.map, strip, stripG]; simp -implicitDefEqProofs only [go_sem, Nat.reduceLT, Nat.reduceAdd, Nat.reduceEqDiff, reduceIte, Nat.reduceMul, Nat.reduceSub, reduceCtorEq, Int.reduceNe, Int.reduceEq, ne_eq, Nat.reduceLeDiff, Nat.reduceMod, Nat.reduceDiv]
                                                            (repeat' first | (refine hK _ ?_; clear hK K') | with_reducible apply And.intro | (simp only [maxLen]; omega) | omega)
                                                            all_goals
                                                              refine blockK_n ?_
                                                              simp -implicitDefEqProofs only [go_sem, Nat.reduceLT, Nat.reduceAdd, Nat.reduceEqDiff, reduceIte, Nat.reduceMul, Nat.reduceSub, reduceCtorEq, Int.reduceNe, Int.reduceEq, ne_eq, Nat.reduceLeDiff, Nat.reduceMod, Nat.reduceDiv]
                                                              (repeat' first | (refine hK _ ?_; clear hK K') | with_reducible apply And.intro | omega)
                                                              all_goals
                                                                apply VC.at
                                                                · simp -implicitDefEqProofs only [go_sem, Nat.reduceLT, Nat.reduceAdd, Nat.reduceEqDiff, reduceIte, Nat.reduceMul, Nat.reduceSub, reduceCtorEq, Int.reduceNe, Int.reduceEq, ne_eq, Nat.reduceLeDiff, Nat.reduceMod, Nat.reduceDiv]; (try simp (disch := omega) only [i64_in, tmodn, tdivn]); (try simp (disch := omega) only [shr_at, low7]); exact rfl
                                                                first | (apply VC.condd; (focus (simp -implicitDefEqProofs only [go_sem, Nat.reduceLT, Nat.reduceAdd, Nat.reduceEqDiff, reduceIte, Nat.reduceMul, Nat.reduceSub, reduceCtorEq, Int.reduceNe, Int.reduceEq, ne_eq, Nat.reduceLeDiff, Nat.reduceMod, Nat.reduceDiv]; with_reducible exact rfl))) | (apply VC.condn; (focus (simp -implicitDefEqProofs only [go_sem, Nat.reduceLT, Nat.reduceAdd, Nat.reduceEqDiff, reduceIte, Nat.reduceMul, Nat.reduceSub, reduceCtorEq, Int.reduceNe, Int.reduceEq, ne_eq, Nat.reduceLeDiff, Nat.reduceMod, Nat.reduceDiv]; with_reducible exact rfl))) | (apply VC.condt; (focus (simp -implicitDefEqProofs only [go_sem, Nat.reduceLT, Nat.reduceAdd, Nat.reduceEqDiff, reduceIte, Nat.reduceMul, Nat.reduceSub, reduceCtorEq, Int.reduceNe, Int.reduceEq, ne_eq, Nat.reduceLeDiff, Nat.reduceMod, Nat.reduceDiv]; with_reducible exact rfl))) | (apply VC.condb; (focus (simp -implicitDefEqProofs only [go_sem, Nat.reduceLT, Nat.reduceAdd, Nat.reduceEqDiff, reduceIte, Nat.reduceMul, Nat.reduceSub, reduceCtorEq, Int.reduceNe, Int.reduceEq, ne_eq, Nat.reduceLeDiff, Nat.reduceMod, Nat.reduceDiv]; exact rfl)))
                                                                · intro h; try exact absurd h (by decide)
                                                                  all_goals
                                                                    apply VC.ret
                                                                    refine blockK_r ?_
                                                                    refine thenK_r ?_
                                                                    refine thenK_r ?_
                                                                    refine blockK_r ?_
                                                                    refine scopeK_r ?_
                                                                    simp -implicitDefEqProofs only [go_sem, Nat.reduceLT, Nat.reduceAdd, Nat.reduceEqDiff, reduceIte, Nat.reduceMul, Nat.reduceSub, reduceCtorEq, Int.reduceNe, Int.reduceEq, ne_eq, Nat.reduceLeDiff, Nat.reduceMod, Nat.reduceDiv]
                                                                    apply aftS_n
                                                                    · simp -implicitDefEqProofs only [go_sem, Nat.reduceLT, Nat.reduceAdd, Nat.reduceEqDiff, reduceIte, Nat.reduceMul, Nat.reduceSub, reduceCtorEq, Int.reduceNe, Int.reduceEq, ne_eq, Nat.reduceLeDiff, Nat.reduceMod, Nat.reduceDiv]; exact rfl
                                                                    refine blockK_n ?_
                                                                    refine blockK_n ?_
                                                                    refine thenK_n ?_
                                                                    apply VC.regLast ΦC_ok; intro K' hK; dsimp only [List.take, List.drop, List.map, strip, stripG]; simp -implicitDefEqProofs only [go_sem, Nat.reduceLT, Nat.reduceAdd, Nat.reduceEqDiff, reduceIte, Nat.reduceMul, Nat.reduceSub, reduceCtorEq, Int.reduceNe, Int.reduceEq, ne_eq, Nat.reduceLeDiff, Nat.reduceMod, Nat.reduceDiv]
                                                                    (repeat' first | (refine hK _ ?_; clear hK K') | with_reducible apply And.intro | (simp -implicitDefEqProofs (disch := omega) only [numsD_at, i64_in, u64_in, List.length_cons, List.length_nil, Nat.reduceAdd]; done) | omega)
                                                                    all_goals
                                                                      refine thenK_n ?_
                                                                      have ej : j = 10 := by omega
                                                                      subst ej
                                                                      have ee : encN l k ++ encTo (num l k) 10 = encN l (k + 1) := (encN_succ l k).symm
                                                                      rw [ee]
                                                                      refine ⟨k + 1, by omega, Ent.to rfl (marks_succ k).symm rfl ?_ ?_, by omega⟩
                                                                      · simp -implicitDefEqProofs only [go_sem, Nat.reduceLT, Nat.reduceAdd, Nat.reduceEqDiff, reduceIte, Nat.reduceMul, Nat.reduceSub, reduceCtorEq, Int.reduceNe, Int.reduceEq, ne_eq, Nat.reduceLeDiff, Nat.reduceMod, Nat.reduceDiv]; (try simp (disch := omega) only [i64_in, tmodn, tdivn]); (try simp only [D.dat.injEq, Vm.Data.int.injEq, true_and, and_true, and_self, eq_self]); (try omega); (try ((repeat' apply And.intro) <;> first | omega | rfl))
                                                                      · dsimp only; rw [marksH_succ]; (repeat' (first | exact all_nil | exact marks_tail [_, _, _, _, _] rfl (by simp) | exact marks_tail [_, _, _, _] rfl (by simp) | (refine all_cons ?_ ?_))) <;> (simp -implicitDefEqProofs only [go_sem, Nat.reduceLT, Nat.reduceAdd, Nat.reduceEqDiff, reduceIte, Nat.reduceMul, Nat.reduceSub, reduceCtorEq, Int.reduceNe, Int.reduceEq, ne_eq, Nat.reduceLeDiff, Nat.reduceMod, Nat.reduceDiv]; (try rfl); skip)
                                                                · intro h; try exact absurd h (by decide)
                                                                  all_goals
                                                                    apply VC.skip
                                                                    refine blockK_n ?_
                                                                    refine thenK_n ?_
                                                                    apply VC.regLast ΦC_ok; intro K' hK; dsimp only [List.take, List.drop, List.map, strip, stripG]; simp -implicitDefEqProofs only [go_sem, Nat.reduceLT, Nat.reduceAdd, Nat.reduceEqDiff, reduceIte, Nat.reduceMul, Nat.reduceSub, reduceCtorEq, Int.reduceNe, Int.reduceEq, ne_eq, Nat.reduceLeDiff, Nat.reduceMod, Nat.reduceDiv]
                                                                    (repeat' first | (refine hK _ ?_; clear hK K') | with_reducible apply And.intro | omega)
                                                                    all_goals
                                                                      refine thenK_n ?_
                                                                      have eg : encTo (num l k) (j + 1) = encTo (num l k) j ++ grp (num l k) j := encTo_succ _ _
                                                                      first | rw [grp_skip (by omega) (Int.ofNat.inj h), List.append_nil] at eg | rw [grp_more (by omega) (fun e => (by assumption : ¬ ((num l k / 2 ^ (63 - 7 * j) : Nat) : Int) = 0) (by rw [e]; rfl))] at eg | rw [grp_last (by omega)] at eg
                                                                      refine ⟨j + 1, by omega, Ent.to rfl rfl rfl ?_ ?_, by omega⟩
                                                                      · simp -implicitDefEqProofs only [go_sem, Nat.reduceLT, Nat.reduceAdd, Nat.reduceEqDiff, reduceIte, Nat.reduceMul, Nat.reduceSub, reduceCtorEq, Int.reduceNe, Int.reduceEq, ne_eq, Nat.reduceLeDiff, Nat.reduceMod, Nat.reduceDiv]; (try simp (disch := omega) only [i64_in, tmodn, tdivn]); (try simp only [D.dat.injEq, Vm.Data.int.injEq, true_and, and_true, and_self, eq_self]); (try omega); (try ((repeat' apply And.intro) <;> first | omega | rfl))
                                                                      · apply all_at
                                                                        · simp -implicitDefEqProofs only [go_sem, Nat.reduceLT, Nat.reduceAdd, Nat.reduceEqDiff, reduceIte, Nat.reduceMul, Nat.reduceSub, reduceCtorEq, Int.reduceNe, Int.reduceEq, ne_eq, Nat.reduceLeDiff, Nat.reduceMod, Nat.reduceDiv]; (try simp only [eg]); first | done | exact rfl
                                                                        · (repeat' (first | exact all_nil | exact marks_tail [_, _, _, _, _] rfl (by simp) | exact marks_tail [_, _, _, _, _, _] rfl (by simp) | (refine all_cons ?_ ?_))) <;> (simp -implicitDefEqProofs only [go_sem, Nat.reduceLT, Nat.reduceAdd, Nat.reduceEqDiff, reduceIte, Nat.reduceMul, Nat.reduceSub, reduceCtorEq, Int.reduceNe, Int.reduceEq, ne_eq, Nat.reduceLeDiff, Nat.reduceMod, Nat.reduceDiv]; (try rfl); try first | rfl | (simp [List.length_append, Nat.add_assoc]; done) | (simp only [high]; rw [byte_snoc8, List.append_assoc]; done) | (rw [byte_snoc7, List.append_assoc]; done))
                                        · intro h; try exact absurd h (by decide)
                                          all_goals
                                            apply VC.exit
                                            refine thenK_e ?_
                                            refine thenK_e ?_
                                            refine blockK_e ?_
                                            refine scopeK_n ?_
                                            simp -implicitDefEqProofs only [go_sem, Nat.reduceLT, Nat.reduceAdd, Nat.reduceEqDiff, reduceIte, Nat.reduceMul, Nat.reduceSub, reduceCtorEq, Int.reduceNe, Int.reduceEq, ne_eq, Nat.reduceLeDiff, Nat.reduceMod, Nat.reduceDiv]
                                            apply aftS_n
                                            · simp -implicitDefEqProofs only [go_sem, Nat.reduceLT, Nat.reduceAdd, Nat.reduceEqDiff, reduceIte, Nat.reduceMul, Nat.reduceSub, reduceCtorEq, Int.reduceNe, Int.reduceEq, ne_eq, Nat.reduceLeDiff, Nat.reduceMod, Nat.reduceDiv]; exact rfl
                                            refine blockK_n ?_
                                            refine blockK_n ?_
                                            refine thenK_n ?_
                                            apply VC.regLast ΦC_ok; intro K' hK; dsimp only [List.take, List.drop, List.map, strip, stripG]; simp -implicitDefEqProofs only [go_sem, Nat.reduceLT, Nat.reduceAdd, Nat.reduceEqDiff, reduceIte, Nat.reduceMul, Nat.reduceSub, reduceCtorEq, Int.reduceNe, Int.reduceEq, ne_eq, Nat.reduceLeDiff, Nat.reduceMod, Nat.reduceDiv]
                                            (repeat' first | (refine hK _ ?_; clear hK K') | with_reducible apply And.intro | (simp -implicitDefEqProofs (disch := omega) only [numsD_at, i64_in, u64_in, List.length_cons, List.length_nil, Nat.reduceAdd]; done) | omega)
                                            all_goals
                                              refine thenK_n ?_
                                              have ej : j = 10 := by omega
                                              subst ej
                                              have ee : encN l k ++ encTo (num l k) 10 = encN l (k + 1) := (encN_succ l k).symm
                                              rw [ee]
                                              refine ⟨k + 1, by omega, Ent.to rfl (marks_succ k).symm rfl ?_ ?_, by omega⟩
                                              · simp -implicitDefEqProofs only [go_sem, Nat.reduceLT, Nat.reduceAdd, Nat.reduceEqDiff, reduceIte, Nat.reduceMul, Nat.reduceSub, reduceCtorEq, Int.reduceNe, Int.reduceEq, ne_eq, Nat.reduceLeDiff, Nat.reduceMod, Nat.reduceDiv]; (try simp (disch := omega) only [i64_in, tmodn, tdivn]); (try simp only [D.dat.injEq, Vm.Data.int.injEq, true_and, and_true, and_self, eq_self]); (try omega); (try ((repeat' apply And.intro) <;> first | omega | rfl))
                                              · dsimp only; rw [marksH_succ]; (repeat' (first | exact all_nil | exact marks_tail [_, _, _, _, _] rfl (by simp) | exact marks_tail [_, _, _, _] rfl (by simp) | (refine all_cons ?_ ?_))) <;> (simp -implicitDefEqProofs only [go_sem, Nat.reduceLT, Nat.reduceAdd, Nat.reduceEqDiff, reduceIte, Nat.reduceMul, Nat.reduceSub, reduceCtorEq, Int.reduceNe, Int.reduceEq, ne_eq, Nat.reduceLeDiff, Nat.reduceMod, Nat.reduceDiv]; (try rfl); skip)
                    · intro h; try exact absurd h (by decide)
                      all_goals
                        apply VC.exit
                        refine thenK_e ?_
                        refine thenK_e ?_
                        refine blockK_e ?_
                        refine thenK_n ?_
                        apply VC.regt ΦC_ok [2, 3]; intro K' hK; dsimp only [List.take, List.drop, List.map, strip, stripG]; simp -implicitDefEqProofs only [go_sem, Nat.reduceLT, Nat.reduceAdd, Nat.reduceEqDiff, reduceIte, Nat.reduceMul, Nat.reduceSub, reduceCtorEq, Int.reduceNe, Int.reduceEq, ne_eq, Nat.reduceLeDiff, Nat.reduceMod, Nat.reduceDiv]
                        (repeat' first | (refine hK _ ?_; clear hK K') | with_reducible apply And.intro | (simp -implicitDefEqProofs (disch := omega) only [numsD_at, i64_in, u64_in, List.length_cons, List.length_nil, Nat.reduceAdd]; done) | omega)
                        all_goals
                          apply VC.at
                          · simp -implicitDefEqProofs only [go_sem, Nat.reduceLT, Nat.reduceAdd, Nat.reduceEqDiff, reduceIte, Nat.reduceMul, Nat.reduceSub, reduceCtorEq, Int.reduceNe, Int.reduceEq, ne_eq, Nat.reduceLeDiff, Nat.reduceMod, Nat.reduceDiv]; (try simp (disch := omega) only [i64_in, tmodn, tdivn]); exact rfl
                          apply VC.ret
                          first | (refine ownK_r (ownS_marks (h := [_, _]) rfl (by simp) ?_)) | skip
                          simp -implicitDefEqProofs only [go_sem, Nat.reduceLT, Nat.reduceAdd, Nat.reduceEqDiff, reduceIte, Nat.reduceMul, Nat.reduceSub, reduceCtorEq, Int.reduceNe, Int.reduceEq, ne_eq, Nat.reduceLeDiff, Nat.reduceMod, Nat.reduceDiv]
                          all_goals (first | (cases e : may l <;> simp_all [encO, bytesD]; done) | (rw [show k = l.length - 1 by omega]; refine ⟨by simp [hm, encO, enc], ?_, by rw [if_pos hm]⟩; simp [hm, enc, encO]; done))
theorem bytes_ok : Pure E 16 bytesF := bytes_own.pure
end Go.Proofs.YtgfadocohpinmaaDoor.Oa


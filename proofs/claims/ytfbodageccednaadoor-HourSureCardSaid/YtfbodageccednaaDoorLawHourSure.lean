/- The row and the card of HourSure: who is surely ahead turns round with the arguments; what is surely ahead of what is surely ahead is so; what is exact is surely ahead just if it is less. No condition. -/
import Derived.Test.YtfbodageccednaaDoorOaL
import Derived.Test.YtfbodageccednaaDoorOaN
import Derived.Test.YtfbodageccednaaDoorVmF
import Derived.Test.YtfbodageccednaaDoorRows
import Derived.Test.YtfbodageccednaaDoorTie
import Derived.Test.YtfbodageccednaaDoorCards
import Derived.WalkKit
import Derived.ProofKit
import Derived.OpenShut
import Derived.ShutString
import Derived.ChangeMaps5
import Derived.ChangeOld
import Derived.Below
import Derived.SizedLaws
import Derived.Lib.SmallJoins
import Derived.Carry
import Derived.LaidMore
import Derived.Lay
import Derived.SevenTiedAt
import Derived.Stop.Joined
set_option linter.unusedVariables false
set_option linter.unusedSimpArgs false
namespace Go.Proofs.YtfbodageccednaaDoor.hourSure
open Go.ChangeShapes Go.WideShapes Go.ChangeAt Go.RowKit Go.Joins
theorem laidOut : laidOutB Tryd.prog = true := by kernel_rfl
theorem own : ownKnob Tryd.prog.godebug = none := by kernel_rfl
open Go.Proofs.YtfbodageccednaaDoor.Vm Go.Proofs.YtfbodageccednaaDoor.Oa in
theorem glob (W : World) (h : laidMetH Tryd.prog Rows.hourSureRow.laid W) : Glob E W (All W) := by
  rw [MakeChecks.laidMetH_plain _ _ _ (by kernel_rfl)] at h
  exact glob_of h (by simp [Rows.hourSureRow]) (by simp [Rows.hourSureRow]) (by simp [Rows.hourSureRow]) 
open Go.Proofs.YtfbodageccednaaDoor.Vm Go.Proofs.YtfbodageccednaaDoor.Oa in
theorem RVs_two {w : World} {I : Cset} {d0 d1 : Go.Proofs.YtfbodageccednaaDoor.Vm.Data} {v0 v1 : Value} (h0 : RV w I d0 v0) (h1 : RV w I d1 v1) : RVs w I [d0, d1] #[v0, v1].toList := by
  simp only [RVs]
  exact ⟨v0, [v1], rfl, h0, v1, [], rfl, h1, rfl⟩
open Go.Proofs.YtfbodageccednaaDoor.Vm Go.Proofs.YtfbodageccednaaDoor.Oa in
theorem rowsBulk {H : Type} : Bulk (Rows.uptoBulk (H := H)) Rows.uptoBulkAll where
  lit l := by cases l <;> simp [Rows.uptoBulk]
  str s := by simp [Rows.uptoBulk]
  nil := by simp [Rows.uptoBulk]
  slice xs ys := by simp only [Rows.uptoBulk]; omega
  agg xs := by simp only [Rows.uptoBulk]; omega
  cons d r := by simp only [Rows.uptoBulkAll]; omega
theorem len3 {α : Type} {l : List α} (h : l.length = 3) : ∃ a b c, l = [a, b, c] := by
  match l, h with
  | [a, b, c], _ => exact ⟨a, b, c, rfl⟩
theorem len9 {α : Type} {l : List α} (h : l.length = 9) : ∃ a b c d e f g i j, l = [a, b, c, d, e, f, g, i, j] := by
  match l, h with
  | [a, b, c, d, e, f, g, i, j], _ => exact ⟨a, b, c, d, e, f, g, i, j, rfl⟩
open Go.Proofs.YtfbodageccednaaDoor.Vm Go.Proofs.YtfbodageccednaaDoor.Oa in
theorem ct41 {n : Nat} {ds : List Go.Proofs.YtfbodageccednaaDoor.Vm.Data} (c : CT Tryd.prog n 41 ds) : ∃ a b c : Int, ds = [.int .i64 a, .int .i64 b, .int .i64 c] := by
  obtain ⟨m, rfl, hl, hc⟩ := CT_array Tryd.underlying41 c
  rw [show Tryd.prog.cellsOf 41 = 3 by kernel_rfl] at hl
  rw [show Tryd.prog.cellsOf 2 = 1 by kernel_rfl] at hc
  obtain ⟨x, y, z, rfl⟩ := len3 hl
  obtain ⟨a, ha, _⟩ := CT_int Tryd.underlying2 (hc 0 (by decide))
  obtain ⟨b, hb, _⟩ := CT_int Tryd.underlying2 (hc 1 (by decide))
  obtain ⟨c, hc, _⟩ := CT_int Tryd.underlying2 (hc 2 (by decide))
  simp at ha hb hc
  exact ⟨a, b, c, by rw [ha, hb, hc]⟩
open Go.Proofs.YtfbodageccednaaDoor.Vm Go.Proofs.YtfbodageccednaaDoor.Oa in
theorem ct43 {n : Nat} {ds : List Go.Proofs.YtfbodageccednaaDoor.Vm.Data} (c : CT Tryd.prog n 43 ds) : ∃ a b c : Int, ds = [.int .i64 a, .int .i64 b, .int .i64 c] := by
  obtain ⟨m, rfl, hl, hc⟩ := CT_struct Tryd.underlying43 c
  rw [show Tryd.prog.cellsOf 43 = 3 by kernel_rfl] at hl
  simp only [List.mem_cons, List.not_mem_nil, or_false, forall_eq_or_imp, forall_eq] at hc
  rw [show Tryd.prog.cellsOf 3 = 1 by kernel_rfl] at hc
  obtain ⟨x, y, z, rfl⟩ := len3 hl
  obtain ⟨a, ha, _⟩ := CT_int Tryd.underlying3 hc.1
  obtain ⟨b, hb, _⟩ := CT_int Tryd.underlying3 hc.2.1
  obtain ⟨c, hc, _⟩ := CT_int Tryd.underlying3 hc.2.2
  simp at ha hb hc
  exact ⟨a, b, c, by rw [ha, hb, hc]⟩
open Go.Proofs.YtfbodageccednaaDoor.Vm Go.Proofs.YtfbodageccednaaDoor.Oa in
theorem ct44 {n : Nat} {ds : List Go.Proofs.YtfbodageccednaaDoor.Vm.Data} (c : CT Tryd.prog n 44 ds) : ∃ a b c d e f g i j : Int, ds = [.int .i64 a, .int .i64 b, .int .i64 c, .int .i64 d, .int .i64 e, .int .i64 f, .int .i64 g, .int .i64 i, .int .i64 j] := by
  obtain ⟨m, rfl, hl, hc⟩ := CT_array Tryd.underlying44 c
  rw [show Tryd.prog.cellsOf 44 = 9 by kernel_rfl] at hl
  rw [show Tryd.prog.cellsOf 43 = 3 by kernel_rfl] at hc
  obtain ⟨x, y, z, x', y', z', x2, y2, z2, rfl⟩ := len9 hl
  obtain ⟨a, b, c, ha⟩ := ct43 (hc 0 (by decide))
  obtain ⟨d, e, f, hd⟩ := ct43 (hc 1 (by decide))
  obtain ⟨g, i, j, hg⟩ := ct43 (hc 2 (by decide))
  simp at ha hd hg
  exact ⟨a, b, c, d, e, f, g, i, j, by simp [ha, hd, hg]⟩
set_option maxRecDepth 100000
theorem isAgg {W : World} {r : Reach} {b0 : Nat} {t e : TypeId} {n : Nat} {v : Value} (ht : Tryd.prog.underlying t = some (.array n e)) (h : Value.okWide Tryd.prog W r b0 t v) : ∃ cs, v = .agg cs := by
  unfold Value.okWide at h
  rw [ht] at h
  obtain ⟨cs, h, _⟩ := h
  exact ⟨cs, h⟩
open Go.Proofs.YtfbodageccednaaDoor.Vm Go.Proofs.YtfbodageccednaaDoor.Oa in
theorem open41 {H : Type} {enc : TypeId × Value → H} {W : World} {r : Reach} {b0 : Nat} {v : Value} {d : DataW H} {p : List MemPlace} (hv : Value.okWide Tryd.prog W r b0 41 v)
    (h : DataW.Trod enc Tryd.prog W 0 (fun _ => true) true 41 v d p) : ∃ a b c : Int, RV W (All W) (.agg [.int .i64 a, .int .i64 b, .int .i64 c]) v := by
  obtain ⟨cs, hcs⟩ := isAgg Tryd.underlying41 hv
  obtain ⟨n, ds, h1, h2, _⟩ := told_agg rowsBulk (S := [2, 3, 41, 43, 44]) (by kernel_rfl) (by decide) hcs h
  obtain ⟨a, b, c, rfl⟩ := ct41 h1
  exact ⟨a, b, c, h2⟩
open Go.Proofs.YtfbodageccednaaDoor.Vm Go.Proofs.YtfbodageccednaaDoor.Oa in
theorem open44 {H : Type} {enc : TypeId × Value → H} {W : World} {r : Reach} {b0 : Nat} {v : Value} {d : DataW H} {p : List MemPlace} (hv : Value.okWide Tryd.prog W r b0 44 v)
    (h : DataW.Trod enc Tryd.prog W 0 (fun _ => true) true 44 v d p) : ∃ a b c d e f g i j : Int, RV W (All W) (.agg [.int .i64 a, .int .i64 b, .int .i64 c, .int .i64 d, .int .i64 e, .int .i64 f, .int .i64 g, .int .i64 i, .int .i64 j]) v := by
  obtain ⟨cs, hcs⟩ := isAgg Tryd.underlying44 hv
  obtain ⟨n, ds, h1, h2, _⟩ := told_agg rowsBulk (S := [2, 3, 41, 43, 44]) (by kernel_rfl) (by decide) hcs h
  obtain ⟨a, b, c, d, e, f, g, i, j, rfl⟩ := ct44 h1
  exact ⟨a, b, c, d, e, f, g, i, j, h2⟩
open Go.Proofs.YtfbodageccednaaDoor.Vm Go.Proofs.YtfbodageccednaaDoor.Oa in
theorem calls (v0 v1 : Value) (l0_0 l0_1 l0_2 : Int) (l1_0 l1_1 l1_2 l1_3 l1_4 l1_5 l1_6 l1_7 l1_8 : Int) (w : World) (hG : Glob E w (All w)) (u0 : RV w (All w) (.agg [.int .i64 l0_0, .int .i64 l0_1, .int .i64 l0_2]) v0) (u1 : RV w (All w) (.agg [.int .i64 l1_0, .int .i64 l1_1, .int .i64 l1_2, .int .i64 l1_3, .int .i64 l1_4, .int .i64 l1_5, .int .i64 l1_6, .int .i64 l1_7, .int .i64 l1_8]) v1) : Calls Tryd.prog 7 #[v0, v1] w fun e w' => e = .returned (.bool true) ∧ Below w.heap.size w w' := by
  refine ((sure_ok w (All w) #[v0, v1] [.agg [.int .i64 l0_0, .int .i64 l0_1, .int .i64 l0_2], .agg [.int .i64 l1_0, .int .i64 l1_1, .int .i64 l1_2, .int .i64 l1_3, .int .i64 l1_4, .int .i64 l1_5, .int .i64 l1_6, .int .i64 l1_7, .int .i64 l1_8]] (fun _ _ h => h) hG ?_ (by rw [sure_pre]; trivial)).calls fun _ _ h => by simp [Fw, Fence.wide] at h).mono ?_
  · exact RVs_two u0 u1
  · rintro e w' ⟨v, rfl, hb, hv⟩
    simp only [sure_res, retD, RVD, RV] at hv
    subst hv
    exact ⟨rfl, hb⟩
set_option maxRecDepth 100000 in
theorem lifted (os : Os) (started : os.Started) (H : Type) (enc : TypeId × Value → H) :
    ReturnsInHanded {} Tryd.checked os 7 .any (fun w args => (Rows.hourSureSpec.pre enc Tryd.prog Tryd.f7 Rows.hourSureRow.domain false w args ∧ laidMetH Tryd.prog Rows.hourSureRow.laid w) ∧ sizedMet enc Tryd.prog Tryd.f7 (OpenSpec.ofChange Rows.hourSureSpec) false w args)
      (Rows.hourSureSpec.post enc Tryd.prog Tryd.f7 false true false false) := by
  refine returnsInHanded_of_change_and (C := Tryd.checked) (X := fun w _ => laidMetH Tryd.prog Rows.hourSureRow.laid w) (fun _ _ _ hh h => h.of_heap hh) own started (by kernel_rfl) Tryd.func7
    (ChangeSpec.witness_shaped (enc := enc) (C := Tryd.checked) (os := os) (X := fun w _ => laidMetH Tryd.prog Rows.hourSureRow.laid w) false (World.laidAll Tryd.prog os Rows.hourSureRow.laid) #[.agg #[.int .i64 0, .int .i64 0, .int .i64 0], .agg #[.int .i64 0, .int .i64 0, .int .i64 0, .int .i64 0, .int .i64 0, .int .i64 0, .int .i64 0, .int .i64 0, .int .i64 0]] 8 (World.laidAll_os _ _ _)
      (World.shaped_of_ZipB (by kernel_rfl) (by kernel_rfl)) (by kernel_rfl) (by kernel_rfl) (by kernel_rfl)
      (by rw [MakeChecks.laidMetH_plain _ _ _ (by kernel_rfl)]; exact laidMet_laidAll _ (by kernel_rfl) (by kernel_rfl))) ?_
  intro W base args ds gs before hval0 hW hcnd hsz0 hL _
  have hval : ∀ (j : Nat) t v, Tryd.f7.params[j]? = some t → args[j]? = some v → Value.okWide Tryd.prog W .any base t v := hval0
  have hW' := hW
  obtain ⟨p, q, hA0, hV, rfl, hfz, hnd⟩ := hW
  have hA : DataW.TrodAll enc Tryd.prog W 0 (fun _ => true) true Tryd.f7.params.toList args.toList ds p := hA0
  rw [Tryd.params7] at hA hval
  obtain ⟨v0, vs0, d0, ds0, p0, q0, hargs, rfl, rfl, h0, r0⟩ := trodAll_cons hA
  obtain ⟨v1, vs1, d1, ds1, p1, q1, rfl, rfl, rfl, h1, r1⟩ := trodAll_cons r0
  obtain ⟨rfl, rfl, rfl⟩ := trodAll_nil r1
  obtain rfl : args = #[v0, v1] := by cases args; simp_all
  obtain ⟨rfl, rfl⟩ := trodVars_none hV
  have lt0 : ∀ x ∈ p0, x.block < W.heap.size := by obtain ⟨m, hm⟩ := h0; exact DataW.trod_lt m _ _ _ hm
  have lt1 : ∀ x ∈ p1, x.block < W.heap.size := by obtain ⟨m, hm⟩ := h1; exact DataW.trod_lt m _ _ _ hm
  obtain ⟨l0_0, l0_1, l0_2, u0⟩ := open41 (hval 0 41 v0 rfl rfl) h0
  obtain ⟨l1_0, l1_1, l1_2, l1_3, l1_4, l1_5, l1_6, l1_7, l1_8, u1⟩ := open44 (hval 1 44 v1 rfl rfl) h1
  refine (calls v0 v1 l0_0 l0_1 l0_2 l1_0 l1_1 l1_2 l1_3 l1_4 l1_5 l1_6 l1_7 l1_8 W (glob W hL) u0 u1).mono fun e W' ⟨he, bel⟩ => ?_
  subst he
  exact ⟨_, rfl, _, _, _, [], _, [], hW', trodAll_mk1 (shut_bool Tryd.underlying4 _), (trodAll_cons_mk (Below.trod laidOut (by kernel_rfl) (of_decide_eq_true (by kernel_rfl)) h0 bel lt0) (trodAll_cons_mk (Below.trod laidOut (by kernel_rfl) (of_decide_eq_true (by kernel_rfl)) h1 bel lt1) trodAll_mk0)), rfl, bel.frame _, fun h => by cases h⟩
theorem over : Rows.hourSureRow.holds Tryd.pinned (OpenSpec.ofChange Rows.hourSureSpec) :=
  OpenClaim.holds_of_wide 7 Tryd.f7 rfl rfl rfl rfl rfl rfl rfl ⟨rfl, rfl, rfl, rfl, rfl⟩ rfl rfl rfl rfl rfl (by kernel_rfl) Tryd.func7 (by kernel_rfl)
    (of_decide_eq_true (by kernel_rfl)) (by unfold Func.isWrapper; first | (rw [if_pos (by decide +kernel)]; kernel_rfl) | (rw [if_neg (by decide +kernel)]; exact ⟨rfl, rfl⟩))
    (fun os started H enc _ => lifted os started H enc)
theorem proved : Rows.HourSureSaid := over
theorem card : Rows.HourSureCardSaid :=
  Claim7.holds_tied_plain_at .later [] [.data, .data, .data, .data, .sentinel, .sentinel, .pinned] true (true, "0fd052bd8d0f4fe34bdd9b2490d958f690b69942da336df2a6a69d17f1aed430") true over (fun _ h => by cases h) (by kernel_rfl) (fun _ h => by cases h) hourSure_row_tie rfl ⟨rfl, rfl⟩ (by kernel_rfl) rfl
    (fun f fn hf hfn => by
      obtain rfl : f = 7 := Option.some.inj ((show Tryd.prog.funcNamed "postmark/postmarklaw15.HourSure" = some 7 by kernel_rfl).symm.trans hf) |>.symm
      obtain rfl : fn = Tryd.f7 := (Option.some.inj (Tryd.func7.symm.trans hfn)).symm
      exact ⟨by kernel_rfl, fun j t ht => by
        rw [Tryd.params7] at ht
        have hm : t ∈ [41, 44] := by simpa using Array.mem_of_getElem? ht
        have hall : ([41, 44].all fun u => !Tryd.prog.wantsStandIn u) = true := by kernel_rfl
        exact (show Tryd.prog.wantsStandIn t = false by simpa using List.all_eq_true.1 hall t hm)⟩)
    (by kernel_rfl)
#print axioms card
end Go.Proofs.YtfbodageccednaaDoor.hourSure
namespace Go.Proofs.YtfbodageccednaaDoor
/-- The card, under a short name, for the claim. -/
theorem hourSure_holds : Rows.HourSureCardSaid := hourSure.card
end Go.Proofs.YtfbodageccednaaDoor


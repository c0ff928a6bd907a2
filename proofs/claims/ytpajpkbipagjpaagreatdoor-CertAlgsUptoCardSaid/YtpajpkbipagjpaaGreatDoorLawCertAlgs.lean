/- The row and the card of CertAlgs (the form whose arguments are of bulk at most 1048576): algorithms as trees, and which algorithm any tree is, or the error, are the document's. No condition. -/
import Derived.Test.YtpajpkbipagjpaaGreatDoorFaCertAlgs
import Derived.Test.YtpajpkbipagjpaaGreatDoorX11
import Derived.Test.YtpajpkbipagjpaaGreatDoorRows
import Derived.Test.YtpajpkbipagjpaaGreatDoorTie
import Derived.Test.YtpajpkbipagjpaaGreatDoorCards
import Derived.WalkKit
import Derived.ProofKit
import Derived.OpenShut
import Derived.ShutString
import Derived.ChangeMaps5
import Derived.ChangeOld
import Derived.Below
import Derived.SizedLaws
import Derived.Lib.SmallJoins
import Derived.Carry
import Derived.LaidMore
import Derived.Lay
import Derived.SevenTiedAt
import Derived.Stop.Joined
import Derived.JoinedCond
import Derived.Deep.DeepHandedRow
import Derived.Lib.LaidTab
set_option linter.unusedVariables false
set_option linter.unusedSimpArgs false
set_option maxRecDepth 100000
namespace Go.Proofs.YtpajpkbipagjpaaGreatDoor.certAlgs
open Go.ChangeShapes Go.WideShapes Go.ChangeAt Go.RowKit Go.Joins
theorem laidOut : laidOutB Tryz.prog = true := by kernel_rfl
theorem own : ownKnob Tryz.prog.godebug = none := by kernel_rfl
open Go.Proofs.YtpajpkbipagjpaaGreatDoor.Vm Go.Proofs.YtpajpkbipagjpaaGreatDoor.Oc in
theorem glob (W : World) (h : laidMetH Tryz.prog Rows.certAlgsUptoRow.laid W) : Glob E W (All W) := by
  rw [MakeChecks.laidMetH_plain _ _ _ (by kernel_rfl)] at h
  exact glob_of h (by simp [Rows.certAlgsUptoRow]) (by simp [Rows.certAlgsUptoRow]) (by simp [Rows.certAlgsUptoRow]) (by simp [Rows.certAlgsUptoRow]) (by simp [Rows.certAlgsUptoRow]) (by simp [Rows.certAlgsUptoRow]) (by simp [Rows.certAlgsUptoRow]) 
open Go.Proofs.YtpajpkbipagjpaaGreatDoor.Vm Go.Proofs.YtpajpkbipagjpaaGreatDoor.Oc in
theorem RVs_nil {w : World} {I : Cset} : RVs w I [] [] := by simp only [RVs]
open Go.Proofs.YtpajpkbipagjpaaGreatDoor.Vm Go.Proofs.YtpajpkbipagjpaaGreatDoor.Oc in
theorem RVs_cons {w : World} {I : Cset} {d : Go.Proofs.YtpajpkbipagjpaaGreatDoor.Vm.Data} {v : Value} {ds : List Go.Proofs.YtpajpkbipagjpaaGreatDoor.Vm.Data} {vs : List Value} (h : RV w I d v) (hs : RVs w I ds vs) : RVs w I (d :: ds) (v :: vs) := by
  simp only [RVs]; exact ⟨v, vs, rfl, h, hs⟩
open Go.Proofs.YtpajpkbipagjpaaGreatDoor.Vm Go.Proofs.YtpajpkbipagjpaaGreatDoor.Oc in
theorem RV_int {w : World} {I : Cset} {k : IntKind} {n : Int} : RV w I (.int k n) (.int k n) := by simp only [RV]
open Go.Proofs.YtpajpkbipagjpaaGreatDoor.Vm Go.Proofs.YtpajpkbipagjpaaGreatDoor.Oc in
theorem RV_bool {w : World} {I : Cset} {b : Bool} : RV w I (.bool b) (.bool b) := by simp only [RV]
open Go.Proofs.YtpajpkbipagjpaaGreatDoor.Vm Go.Proofs.YtpajpkbipagjpaaGreatDoor.Oc in
theorem rowsBulk {H : Type} : Bulk (Rows.uptoBulk (H := H)) Rows.uptoBulkAll where
  lit l := by cases l <;> simp [Rows.uptoBulk]
  str s := by simp [Rows.uptoBulk]
  nil := by simp [Rows.uptoBulk]
  slice xs ys := by simp only [Rows.uptoBulk]; omega
  agg xs := by simp only [Rows.uptoBulk]; omega
  cons d r := by simp only [Rows.uptoBulkAll]; omega
theorem isAgg {W : World} {r : Reach} {b0 : Nat} {t : TypeId} {fs : Array Field} {v : Value} (ht : Tryz.prog.underlying t = some (.struct fs)) (h : Value.okWide Tryz.prog W r b0 t v) : ∃ cs, v = .agg cs := by
  unfold Value.okWide at h
  rw [ht] at h
  obtain ⟨cs, h, _⟩ := h
  exact ⟨cs, h⟩
open Go.Proofs.YtpajpkbipagjpaaGreatDoor.Vm Go.Proofs.YtpajpkbipagjpaaGreatDoor.Oc Go.Proofs.YtpajpkbipagjpaaGreatDoor.Tr in
theorem nodeTy : NodeTy Tryz.prog 25 3 4 22 5 23 :=
  ⟨⟨_, _, _, _, _, Tryz.underlying25, rfl, rfl, rfl, rfl, rfl, rfl, rfl, rfl, rfl, rfl⟩, Tryz.underlying3, Tryz.underlying4, Tryz.underlying22, Tryz.underlying5, Tryz.underlying23, by kernel_rfl, by kernel_rfl, by kernel_rfl, by kernel_rfl, by kernel_rfl⟩
open Go.Proofs.YtpajpkbipagjpaaGreatDoor.Vm Go.Proofs.YtpajpkbipagjpaaGreatDoor.Oc Go.Proofs.YtpajpkbipagjpaaGreatDoor.Tr in
theorem open_node {H : Type} {enc : TypeId × Value → H} {W : World} {r : Reach} {b0 : Nat} {v : Value} {d : DataW H} {p : List MemPlace} (hv : Value.okWide Tryz.prog W r b0 25 v)
    (h : DataW.Trod enc Tryz.prog W 0 (fun _ => true) true 25 v d p) : ∃ t : T, RV W (All W) (.agg (nodeC t)) v ∧ t.sz ≤ Rows.uptoBulk d := by
  obtain ⟨cs, hcs⟩ := isAgg Tryz.underlying25 hv
  obtain ⟨n, ds, h1, h2, h3⟩ := told_agg rowsBulk (S := [3, 4, 5, 22, 23, 25]) (by kernel_rfl) (by decide) hcs h
  obtain ⟨t, rfl⟩ := CT_node nodeTy n ds h1
  exact ⟨t, h2, by rw [← bk_node]; exact h3⟩
open Go.Proofs.YtpajpkbipagjpaaGreatDoor.Vm Go.Proofs.YtpajpkbipagjpaaGreatDoor.Oc Go.Proofs.YtpajpkbipagjpaaGreatDoor.Tr in
theorem calls (l0 : Int) (l1 : Int) (l2 : Bool) (t3 : T) (v3 : Value) (w : World) (hG : Glob E w (All w)) (u3 : RV w (All w) (.agg (nodeC t3)) v3) (hb3 : t3.sz ≤ 1048576) : Calls Tryz.prog 3 #[.int .i64 l0, .int .i64 l1, .bool l2, v3] w fun e w' => e = .returned (.bool true) ∧ Below w.heap.size w w' := by
  have hpre : lalgsF.pre [.int .i64 l0, .int .i64 l1, .bool l2, .agg (nodeC t3)] := by
    simp -implicitDefEqProofs only [go_sem]
    exact hb3
  have hres : lalgsF.res [.int .i64 l0, .int .i64 l1, .bool l2, .agg (nodeC t3)] = [.bool true] := by simp -implicitDefEqProofs only [go_sem]
  refine ((lalgs_ok w (All w) #[.int .i64 l0, .int .i64 l1, .bool l2, v3] [.int .i64 l0, .int .i64 l1, .bool l2, .agg (nodeC t3)] (fun _ _ h => h) hG (RVs_cons RV_int (RVs_cons RV_int (RVs_cons RV_bool (RVs_cons u3 RVs_nil)))) hpre).calls fun _ _ h => by simp [Fw, Fence.wide] at h).mono ?_
  rintro e w' ⟨v, rfl, hb, hv⟩
  rw [hres] at hv
  simp only [retD, RVD, RV] at hv
  subst hv
  exact ⟨rfl, hb⟩
theorem bulk_mem {H : Type} {d : DataW H} {l : List (DataW H)} (h : d ∈ l) : Rows.uptoBulk d ≤ Rows.uptoBulkAll l := by
  induction l with
  | nil => cases h
  | cons x r ih =>
    simp only [Rows.uptoBulkAll]
    cases List.mem_cons.1 h with
    | inl e => subst e; omega
    | inr e => have := ih e; omega
theorem reads (os : Os) {H : Type} (enc : TypeId × Value → H) : DataW.whole enc Tryz.prog ((World.laidAll Tryz.prog os Rows.certAlgsUptoRow.laid).forCall (fun _ _ => 0) ⟨#[], #[.int .i64 0, .int .i64 0, .bool false, .agg #[.int .i64 0, .int .i64 0, .bool false, .slice none 0 0, .slice none 0 0]], []⟩).memory Tryz.f3.params.toList Rows.certAlgsSpec.vars false #[(.int .i64 0 : Value), (.int .i64 0 : Value), (.bool false : Value), (.agg #[.int .i64 0, .int .i64 0, .bool false, .slice none 0 0, .slice none 0 0] : Value)].toList 8 = some ([.lit (.int .i64 0), .lit (.int .i64 0), .lit (.bool false), .agg [.lit (.int .i64 0), .lit (.int .i64 0), .lit (.bool false), .nil, .nil]], [], []) := by kernel_rfl
set_option maxRecDepth 100000 in
theorem lifted (os : Os) (started : os.Started) (H : Type) (enc : TypeId × Value → H) (F : Stop.Interp) :
    ReturnsInHanded {} Tryz.checked os 3 .any ((Rows.OpenSpec.upto Rows.certAlgsSpec).preRow enc Tryz.prog Tryz.f3 Rows.certAlgsUptoRow.domain false Rows.certAlgsUptoRow.laid) (((Rows.OpenSpec.upto Rows.certAlgsSpec).at F).post enc Tryz.prog Tryz.f3 false true false false) := by
  have hok : Input.okWideB Tryz.prog ((World.laidAll Tryz.prog os Rows.certAlgsUptoRow.laid).forCall (fun _ _ => 0) ⟨#[], #[.int .i64 0, .int .i64 0, .bool false, .agg #[.int .i64 0, .int .i64 0, .bool false, .slice none 0 0, .slice none 0 0]], []⟩) 3 ⟨#[], #[.int .i64 0, .int .i64 0, .bool false, .agg #[.int .i64 0, .int .i64 0, .bool false, .slice none 0 0, .slice none 0 0]], []⟩ = true := by kernel_rfl
  refine returnsInHanded_of_row (C := Tryz.checked) (s := Rows.OpenSpec.upto Rows.certAlgsSpec) own started (by kernel_rfl) Tryz.func3
    ⟨World.laidAll Tryz.prog os Rows.certAlgsUptoRow.laid, fun _ _ => 0, ⟨#[], #[.int .i64 0, .int .i64 0, .bool false, .agg #[.int .i64 0, .int .i64 0, .bool false, .slice none 0 0, .slice none 0 0]], []⟩, World.laidAll_os _ _ _, World.shaped_of_ZipB (by kernel_rfl) (by kernel_rfl), rfl, (Input.okWide_of_okWideB hok).2,
      OpenSpec.preRow_of_cond 8 (reads os enc) (by kernel_rfl) (fun k hk => by cases hk; kernel_rfl) (by kernel_rfl) (by rw [MakeChecks.laidMetH_plain _ _ _ (by kernel_rfl)]; exact laidMet_laidAll _ (by kernel_rfl) (by kernel_rfl)), by
        simp only [Assume.holds]
        exact ⟨by simp, by simp, fun _ => Modest.zero, by simp, by simp⟩⟩ ?_
  intro W base args ds gs before hval0 hW _ hcond _ hL _ _
  have hval : ∀ (j : Nat) t v, Tryz.f3.params[j]? = some t → args[j]? = some v → Value.okWide Tryz.prog W .any base t v := hval0
  have hbulk : Rows.uptoBulkAll (ds ++ gs) ≤ 1048576 := of_decide_eq_true (hcond _ rfl)
  have hW' := hW
  obtain ⟨p, q, hA0, hV, rfl, hfz, hnd⟩ := hW
  have hA : DataW.TrodAll enc Tryz.prog W 0 (fun _ => true) true Tryz.f3.params.toList args.toList ds p := hA0
  rw [Tryz.params3] at hA hval
  obtain ⟨v0, vs0, d0, ds0, p0, q0, hargs, rfl, rfl, h0, r0⟩ := trodAll_cons hA
  obtain ⟨v1, vs1, d1, ds1, p1, q1, rfl, rfl, rfl, h1, r1⟩ := trodAll_cons r0
  obtain ⟨v2, vs2, d2, ds2, p2, q2, rfl, rfl, rfl, h2, r2⟩ := trodAll_cons r1
  obtain ⟨v3, vs3, d3, ds3, p3, q3, rfl, rfl, rfl, h3, r3⟩ := trodAll_cons r2
  obtain ⟨rfl, rfl, rfl⟩ := trodAll_nil r3
  obtain rfl : args = #[v0, v1, v2, v3] := by cases args; simp_all
  obtain ⟨rfl, rfl⟩ := trodVars_none hV
  have lt0 : ∀ x ∈ p0, x.block < W.heap.size := by obtain ⟨m, hm⟩ := h0; exact DataW.trod_lt m _ _ _ hm
  have lt1 : ∀ x ∈ p1, x.block < W.heap.size := by obtain ⟨m, hm⟩ := h1; exact DataW.trod_lt m _ _ _ hm
  have lt2 : ∀ x ∈ p2, x.block < W.heap.size := by obtain ⟨m, hm⟩ := h2; exact DataW.trod_lt m _ _ _ hm
  have lt3 : ∀ x ∈ p3, x.block < W.heap.size := by obtain ⟨m, hm⟩ := h3; exact DataW.trod_lt m _ _ _ hm
  obtain ⟨l0, rfl, rfl, rfl, w0⟩ := open_int Tryz.underlying3 (hval 0 3 v0 rfl rfl) h0
  obtain ⟨l1, rfl, rfl, rfl, w1⟩ := open_int Tryz.underlying3 (hval 1 3 v1 rfl rfl) h1
  obtain ⟨l2, rfl, rfl, rfl⟩ := open_bool Tryz.underlying4 (hval 2 4 v2 rfl rfl) h2
  obtain ⟨t3, u3, s3⟩ := open_node (hval 3 25 v3 rfl rfl) h3
  have hb3 := Nat.le_trans s3 (Nat.le_trans (bulk_mem (d := d3) (by simp)) hbulk)
  refine (calls l0 l1 l2 t3 v3 W (glob W hL) u3 hb3).mono fun e W' ⟨he, bel⟩ => ?_
  subst he
  exact ⟨_, rfl, _, _, _, [], _, [], hW', trodAll_mk1 (shut_bool Tryz.underlying4 _), (trodAll_cons_mk (Below.trod laidOut (by kernel_rfl) (of_decide_eq_true (by kernel_rfl)) h0 bel lt0) (trodAll_cons_mk (Below.trod laidOut (by kernel_rfl) (of_decide_eq_true (by kernel_rfl)) h1 bel lt1) (trodAll_cons_mk (Below.trod laidOut (by kernel_rfl) (of_decide_eq_true (by kernel_rfl)) h2 bel lt2) (trodAll_cons_mk (Below.trod laidOut (by kernel_rfl) (of_decide_eq_true (by kernel_rfl)) h3 bel lt3) trodAll_mk0)))), rfl, bel.frame _, fun h => by cases h⟩
theorem over : Rows.certAlgsUptoRow.holds Tryz.pinned (Rows.OpenSpec.upto Rows.certAlgsSpec) :=
  OpenClaim.holds_of_cond 3 Tryz.f3 rfl rfl rfl rfl rfl rfl rfl ⟨rfl, rfl, rfl, rfl, rfl⟩ rfl rfl rfl rfl rfl certAlgsFacts.k5 Tryz.func3 certAlgsFacts.closed
    certAlgsFacts.k7 (by unfold Func.isWrapper; first | (rw [if_pos (by decide +kernel)]; kernel_rfl) | (rw [if_neg (by decide +kernel)]; exact ⟨rfl, rfl⟩))
    (fun os started H enc _ F => by rw [OpenClaim.pre_eq_preRow]; exact lifted os started H enc F)
theorem proved : Rows.CertAlgsUptoSaid := over
theorem card : Rows.CertAlgsUptoCardSaid :=
  Claim7.holds_tied_plain_at .later [] [.data, .data, .data, .data, .sentinel, .sentinel, .data, .data, .pinned] true (true, "ca4ef3a2e58fbf2a35acf9ca5429267dbc7c6c920d6ee0cd92eb8469b75f9bb4") true over (fun _ h => by cases h) certAlgsFacts.k1 (fun _ h => by cases h) certAlgsUpto_row_tie rfl ⟨rfl, rfl⟩ certAlgsFacts.k2 rfl
    (fun f fn hf hfn => by
      obtain rfl : f = 3 := Option.some.inj (certAlgsFacts.k5.symm.trans hf) |>.symm
      obtain rfl : fn = Tryz.f3 := (Option.some.inj (Tryz.func3.symm.trans hfn)).symm
      exact ⟨certAlgsFacts.k3, fun j t ht => by
        rw [Tryz.params3] at ht
        have hm : t ∈ [3, 3, 4, 25] := by simpa using Array.mem_of_getElem? ht
        have hall : ([3, 3, 4, 25].all fun u => !Tryz.prog.wantsStandIn u) = true := by kernel_rfl
        exact (show Tryz.prog.wantsStandIn t = false by simpa using List.all_eq_true.1 hall t hm)⟩)
    certAlgsFacts.k4
#print axioms card
end Go.Proofs.YtpajpkbipagjpaaGreatDoor.certAlgs
namespace Go.Proofs.YtpajpkbipagjpaaGreatDoor
theorem certAlgs_holds : Rows.CertAlgsUptoCardSaid := certAlgs.card
end Go.Proofs.YtpajpkbipagjpaaGreatDoor


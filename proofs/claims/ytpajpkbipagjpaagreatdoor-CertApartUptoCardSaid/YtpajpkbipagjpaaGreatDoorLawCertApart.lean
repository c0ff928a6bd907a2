/- The row and the card of CertApart (the form whose arguments are of bulk at most 1048576): two certificates have the same tree just if they are the same; a certificate's signed part does not hang on its signature. No condition. -/
import Derived.Test.YtpajpkbipagjpaaGreatDoorFaCertApart
import Derived.Test.YtpajpkbipagjpaaGreatDoorX21
import Derived.Test.YtpajpkbipagjpaaGreatDoorX22
import Derived.Test.YtpajpkbipagjpaaGreatDoorRows
import Derived.Test.YtpajpkbipagjpaaGreatDoorTie
import Derived.Test.YtpajpkbipagjpaaGreatDoorCards
import Derived.WalkKit
import Derived.ProofKit
import Derived.OpenShut
import Derived.ShutString
import Derived.ChangeMaps5
import Derived.ChangeOld
import Derived.Below
import Derived.SizedLaws
import Derived.Lib.SmallJoins
import Derived.Carry
import Derived.LaidMore
import Derived.Lay
import Derived.SevenTiedAt
import Derived.Stop.Joined
import Derived.JoinedCond
import Derived.Deep.DeepHandedRow
import Derived.Lib.LaidTab
set_option linter.unusedVariables false
set_option linter.unusedSimpArgs false
set_option maxRecDepth 100000
namespace Go.Proofs.YtpajpkbipagjpaaGreatDoor.certApart
open Go.ChangeShapes Go.WideShapes Go.ChangeAt Go.RowKit Go.Joins
theorem laidOut : laidOutB Tryz.prog = true := by kernel_rfl
theorem own : ownKnob Tryz.prog.godebug = none := by kernel_rfl
open Go.Proofs.YtpajpkbipagjpaaGreatDoor.Vm Go.Proofs.YtpajpkbipagjpaaGreatDoor.Oc in
theorem glob (W : World) (h : laidMetH Tryz.prog Rows.certApartUptoRow.laid W) : Glob E1 W (All W) := by
  rw [MakeChecks.laidMetH_plain _ _ _ (by kernel_rfl)] at h
  exact glob1_of h (by simp [Rows.certApartUptoRow]) (by simp [Rows.certApartUptoRow]) (by simp [Rows.certApartUptoRow]) (by simp [Rows.certApartUptoRow]) (by simp [Rows.certApartUptoRow]) (by simp [Rows.certApartUptoRow]) (by simp [Rows.certApartUptoRow]) (by simp [Rows.certApartUptoRow]) 
open Go.Proofs.YtpajpkbipagjpaaGreatDoor.Vm Go.Proofs.YtpajpkbipagjpaaGreatDoor.Oc in
theorem RVs_nil {w : World} {I : Cset} : RVs w I [] [] := by simp only [RVs]
open Go.Proofs.YtpajpkbipagjpaaGreatDoor.Vm Go.Proofs.YtpajpkbipagjpaaGreatDoor.Oc in
theorem RVs_cons {w : World} {I : Cset} {d : Go.Proofs.YtpajpkbipagjpaaGreatDoor.Vm.Data} {v : Value} {ds : List Go.Proofs.YtpajpkbipagjpaaGreatDoor.Vm.Data} {vs : List Value} (h : RV w I d v) (hs : RVs w I ds vs) : RVs w I (d :: ds) (v :: vs) := by
  simp only [RVs]; exact ⟨v, vs, rfl, h, hs⟩
theorem u8_of {n : Int} (h : (Lit.int .u8 n).wf = true) : 0 ≤ n ∧ n ≤ 255 := by
  rw [Lit.wf, Bool.and_eq_true, decide_eq_true_eq, decide_eq_true_eq] at h
  rw [show IntKind.u8.min = 0 by decide, show IntKind.u8.max = 255 by decide] at h
  exact h
open Go.Proofs.YtpajpkbipagjpaaGreatDoor.Vm Go.Proofs.YtpajpkbipagjpaaGreatDoor.Oc in
theorem RV_int {w : World} {I : Cset} {k : IntKind} {n : Int} : RV w I (.int k n) (.int k n) := by simp only [RV]
open Go.Proofs.YtpajpkbipagjpaaGreatDoor.Vm Go.Proofs.YtpajpkbipagjpaaGreatDoor.Oc in
theorem RV_bool {w : World} {I : Cset} {b : Bool} : RV w I (.bool b) (.bool b) := by simp only [RV]
open Go.Proofs.YtpajpkbipagjpaaGreatDoor.Vm Go.Proofs.YtpajpkbipagjpaaGreatDoor.Oc in
theorem rowsBulk {H : Type} : Bulk (Rows.uptoBulk (H := H)) Rows.uptoBulkAll where
  lit l := by cases l <;> simp [Rows.uptoBulk]
  str s := by simp [Rows.uptoBulk]
  nil := by simp [Rows.uptoBulk]
  slice xs ys := by simp only [Rows.uptoBulk]; omega
  agg xs := by simp only [Rows.uptoBulk]; omega
  cons d r := by simp only [Rows.uptoBulkAll]; omega
theorem isAgg {W : World} {r : Reach} {b0 : Nat} {t : TypeId} {fs : Array Field} {v : Value} (ht : Tryz.prog.underlying t = some (.struct fs)) (h : Value.okWide Tryz.prog W r b0 t v) : ∃ cs, v = .agg cs := by
  unfold Value.okWide at h
  rw [ht] at h
  obtain ⟨cs, h, _⟩ := h
  exact ⟨cs, h⟩
open Go.Proofs.YtpajpkbipagjpaaGreatDoor.Vm Go.Proofs.YtpajpkbipagjpaaGreatDoor.Oc Go.Proofs.YtpajpkbipagjpaaGreatDoor.Tr in
theorem rdTyC : RdTy Tryz.prog 52 3 9 4 :=
  ⟨⟨_, _, _, Tryz.underlying52, rfl, rfl, rfl, rfl, rfl, rfl⟩, Tryz.underlying3, Tryz.underlying9, Tryz.underlying4, by kernel_rfl, by kernel_rfl, by kernel_rfl, by kernel_rfl⟩
open Go.Proofs.YtpajpkbipagjpaaGreatDoor.Vm Go.Proofs.YtpajpkbipagjpaaGreatDoor.Oc Go.Proofs.YtpajpkbipagjpaaGreatDoor.Tr in
theorem ceTy : CeTy Tryz.prog 71 68 69 84 48 52 22 5 34 30 2 3 9 4 :=
  ⟨⟨_, Tryz.underlying71, rfl⟩, ⟨_, Tryz.underlying68, rfl⟩, ⟨_, Tryz.underlying84, rfl⟩, Tryz.underlying69, Tryz.underlying48, rdTyC, Tryz.underlying22, Tryz.underlying5, Tryz.underlying34, Tryz.underlying30, Tryz.underlying2, Tryz.underlying4, by kernel_rfl, by kernel_rfl, by kernel_rfl, by kernel_rfl, by kernel_rfl, by kernel_rfl, by kernel_rfl, by kernel_rfl, by kernel_rfl, by kernel_rfl⟩
open Go.Proofs.YtpajpkbipagjpaaGreatDoor.Vm Go.Proofs.YtpajpkbipagjpaaGreatDoor.Oc Go.Proofs.YtpajpkbipagjpaaGreatDoor.Tr in
theorem open_cert {H : Type} {enc : TypeId × Value → H} {W : World} {r : Reach} {b0 : Nat} {v : Value} {d : DataW H} {p : List MemPlace} (hv : Value.okWide Tryz.prog W r b0 71 v)
    (h : DataW.Trod enc Tryz.prog W 0 (fun _ => true) true 71 v d p) : ∃ x : Ce, RV W (All W) (.agg (ceC x)) v ∧ bkC (ceC x) ≤ Rows.uptoBulk d := by
  obtain ⟨cs, hcs⟩ := isAgg Tryz.underlying71 hv
  obtain ⟨n, ds, h1, h2, h3⟩ := told_agg rowsBulk (S := [3, 2, 4, 9, 5, 22, 34, 30, 52, 48, 68, 84, 69, 71]) (by kernel_rfl) (by decide) hcs h
  obtain ⟨x, rfl, _⟩ := CT_ce ceTy h1
  exact ⟨x, h2, h3⟩
theorem oneSliceC {W : World} {r : Reach} {b0 : Nat} {t e : TypeId} {v : Value} (ht : Tryz.prog.underlying t = some (.slice e)) (h : Value.okWide Tryz.prog W r b0 t v) : v.cells = #[v] := by
  unfold Value.okWide at h
  rw [ht] at h
  dsimp only at h
  unfold Cell.okWide at h
  rw [ht] at h
  cases v <;> first | rfl | (exfalso; dsimp only at h; unfold Cell.ok at h; rw [ht] at h; exact h)
open Go.Proofs.YtpajpkbipagjpaaGreatDoor.Vm Go.Proofs.YtpajpkbipagjpaaGreatDoor.Oc Go.Proofs.YtpajpkbipagjpaaGreatDoor.Tr in
theorem open_bytes {H : Type} {enc : TypeId × Value → H} {W : World} {r : Reach} {b0 : Nat} {v : Value} {d : DataW H} {p : List MemPlace} (hv : Value.okWide Tryz.prog W r b0 22 v)
    (h : DataW.Trod enc Tryz.prog W 0 (fun _ => true) true 22 v d p) : ∃ l : List UInt8, RV W (All W) (.lst (bytesD l)) v ∧ l.length ≤ Rows.uptoBulk d := by
  obtain ⟨n, d', h1, h2, h3⟩ := told_one rowsBulk (S := [5, 22]) (by kernel_rfl) (by decide) (oneSliceC Tryz.underlying22 hv) h
  obtain ⟨l, hl⟩ := CT_bytes ceTy.bytes ceTy.u8 h1
  injection hl with hl _
  subst hl
  exact ⟨l, h2, Nat.le_trans (by simp only [bk, bk_bytes]; omega) h3⟩
open Go.Proofs.YtpajpkbipagjpaaGreatDoor.Vm Go.Proofs.YtpajpkbipagjpaaGreatDoor.Oc Go.Proofs.YtpajpkbipagjpaaGreatDoor.Tr in
theorem grB_of {c : Ce} (h : ceK c 1048576) : grB c := by
  obtain ⟨h1, h2, h3, h4, h5, h6, h7, h8⟩ := h
  exact ⟨by omega, by omega, by omega, by omega, by omega, fun j => by have := h6 j; omega, fun j => by have := h7 j; omega, fun j => by have := h8 j; omega⟩
open Go.Proofs.YtpajpkbipagjpaaGreatDoor.Vm Go.Proofs.YtpajpkbipagjpaaGreatDoor.Oc Go.Proofs.YtpajpkbipagjpaaGreatDoor.Tr in
theorem calls (m0 : Ce) (v0 : Value) (m1 : Ce) (v1 : Value) (l2 : List UInt8) (v2 : Value) (w : World) (hG : Glob E1 w (All w)) (u0 : RV w (All w) (.agg (ceC m0)) v0) (hb0 : ceK m0 1048576) (u1 : RV w (All w) (.agg (ceC m1)) v1) (hb1 : ceK m1 1048576) (u2 : RV w (All w) (.lst (bytesD l2)) v2) (hb2 : l2.length ≤ 1048576) : Calls Tryz.prog 5 #[v0, v1, v2] w fun e w' => e = .returned (.bool true) ∧ Below w.heap.size w w' := by
  have hpre : lapart_1F.pre [.agg (ceC m0), .agg (ceC m1), .lst (bytesD l2)] := by
    simp -implicitDefEqProofs only [go_sem]
    exact ⟨grB_of hb0, grB_of hb1, by omega⟩
  have hres : lapart_1F.res [.agg (ceC m0), .agg (ceC m1), .lst (bytesD l2)] = [.bool true] := by simp -implicitDefEqProofs only [go_sem]
  refine ((lapart_1_ok w (All w) #[v0, v1, v2] [.agg (ceC m0), .agg (ceC m1), .lst (bytesD l2)] (fun _ _ h => h) hG (RVs_cons u0 (RVs_cons u1 (RVs_cons u2 RVs_nil))) hpre).calls fun _ _ h => by simp [Fw, Fence.wide] at h).mono ?_
  rintro e w' ⟨v, rfl, hb, hv⟩
  rw [hres] at hv
  simp only [retD, RVD, RV] at hv
  subst hv
  exact ⟨rfl, hb⟩
theorem bulk_mem {H : Type} {d : DataW H} {l : List (DataW H)} (h : d ∈ l) : Rows.uptoBulk d ≤ Rows.uptoBulkAll l := by
  induction l with
  | nil => cases h
  | cons x r ih =>
    simp only [Rows.uptoBulkAll]
    cases List.mem_cons.1 h with
    | inl e => subst e; omega
    | inr e => have := ih e; omega
theorem reads (os : Os) {H : Type} (enc : TypeId × Value → H) : DataW.whole enc Tryz.prog ((World.laidAll Tryz.prog os Rows.certApartUptoRow.laid).forCall (fun _ _ => 0) ⟨#[], #[.agg #[.slice none 0 0, .int .i64 0, .int .i64 0, .slice none 0 0, .int .i64 0, .int .i64 0, .slice none 0 0, .slice none 0 0, .slice none 0 0, .slice none 0 0, .slice none 0 0, .slice none 0 0], .agg #[.slice none 0 0, .int .i64 0, .int .i64 0, .slice none 0 0, .int .i64 0, .int .i64 0, .slice none 0 0, .slice none 0 0, .slice none 0 0, .slice none 0 0, .slice none 0 0, .slice none 0 0], .slice none 0 0], []⟩).memory Tryz.f5.params.toList Rows.certApartSpec.vars false #[(.agg #[.slice none 0 0, .int .i64 0, .int .i64 0, .slice none 0 0, .int .i64 0, .int .i64 0, .slice none 0 0, .slice none 0 0, .slice none 0 0, .slice none 0 0, .slice none 0 0, .slice none 0 0] : Value), (.agg #[.slice none 0 0, .int .i64 0, .int .i64 0, .slice none 0 0, .int .i64 0, .int .i64 0, .slice none 0 0, .slice none 0 0, .slice none 0 0, .slice none 0 0, .slice none 0 0, .slice none 0 0] : Value), (.slice none 0 0 : Value)].toList 8 = some ([.agg [.nil, .lit (.int .i64 0), .lit (.int .i64 0), .nil, .lit (.int .i64 0), .lit (.int .i64 0), .nil, .agg [.nil, .nil, .nil], .nil, .nil], .agg [.nil, .lit (.int .i64 0), .lit (.int .i64 0), .nil, .lit (.int .i64 0), .lit (.int .i64 0), .nil, .agg [.nil, .nil, .nil], .nil, .nil], .nil], [], []) := by kernel_rfl
open Go.Proofs.YtpajpkbipagjpaaGreatDoor.Tr in
set_option maxRecDepth 100000 in
theorem lifted (os : Os) (started : os.Started) (H : Type) (enc : TypeId × Value → H) (F : Stop.Interp) :
    ReturnsInHanded {} Tryz.checked os 5 .any ((Rows.OpenSpec.upto Rows.certApartSpec).preRow enc Tryz.prog Tryz.f5 Rows.certApartUptoRow.domain false Rows.certApartUptoRow.laid) (((Rows.OpenSpec.upto Rows.certApartSpec).at F).post enc Tryz.prog Tryz.f5 false true false false) := by
  have hok : Input.okWideB Tryz.prog ((World.laidAll Tryz.prog os Rows.certApartUptoRow.laid).forCall (fun _ _ => 0) ⟨#[], #[.agg #[.slice none 0 0, .int .i64 0, .int .i64 0, .slice none 0 0, .int .i64 0, .int .i64 0, .slice none 0 0, .slice none 0 0, .slice none 0 0, .slice none 0 0, .slice none 0 0, .slice none 0 0], .agg #[.slice none 0 0, .int .i64 0, .int .i64 0, .slice none 0 0, .int .i64 0, .int .i64 0, .slice none 0 0, .slice none 0 0, .slice none 0 0, .slice none 0 0, .slice none 0 0, .slice none 0 0], .slice none 0 0], []⟩) 5 ⟨#[], #[.agg #[.slice none 0 0, .int .i64 0, .int .i64 0, .slice none 0 0, .int .i64 0, .int .i64 0, .slice none 0 0, .slice none 0 0, .slice none 0 0, .slice none 0 0, .slice none 0 0, .slice none 0 0], .agg #[.slice none 0 0, .int .i64 0, .int .i64 0, .slice none 0 0, .int .i64 0, .int .i64 0, .slice none 0 0, .slice none 0 0, .slice none 0 0, .slice none 0 0, .slice none 0 0, .slice none 0 0], .slice none 0 0], []⟩ = true := by kernel_rfl
  refine returnsInHanded_of_row (C := Tryz.checked) (s := Rows.OpenSpec.upto Rows.certApartSpec) own started (by kernel_rfl) Tryz.func5
    ⟨World.laidAll Tryz.prog os Rows.certApartUptoRow.laid, fun _ _ => 0, ⟨#[], #[.agg #[.slice none 0 0, .int .i64 0, .int .i64 0, .slice none 0 0, .int .i64 0, .int .i64 0, .slice none 0 0, .slice none 0 0, .slice none 0 0, .slice none 0 0, .slice none 0 0, .slice none 0 0], .agg #[.slice none 0 0, .int .i64 0, .int .i64 0, .slice none 0 0, .int .i64 0, .int .i64 0, .slice none 0 0, .slice none 0 0, .slice none 0 0, .slice none 0 0, .slice none 0 0, .slice none 0 0], .slice none 0 0], []⟩, World.laidAll_os _ _ _, World.shaped_of_ZipB (by kernel_rfl) (by kernel_rfl), rfl, (Input.okWide_of_okWideB hok).2,
      OpenSpec.preRow_of_cond 8 (reads os enc) (by kernel_rfl) (fun k hk => by cases hk; kernel_rfl) (by kernel_rfl) (by rw [MakeChecks.laidMetH_plain _ _ _ (by kernel_rfl)]; exact laidMet_laidAll _ (by kernel_rfl) (by kernel_rfl)), by
        simp only [Assume.holds]
        exact ⟨by simp, by simp, fun _ => Modest.zero, by simp, by simp⟩⟩ ?_
  intro W base args ds gs before hval0 hW _ hcond _ hL _ _
  have hval : ∀ (j : Nat) t v, Tryz.f5.params[j]? = some t → args[j]? = some v → Value.okWide Tryz.prog W .any base t v := hval0
  have hbulk : Rows.uptoBulkAll (ds ++ gs) ≤ 1048576 := of_decide_eq_true (hcond _ rfl)
  have hW' := hW
  obtain ⟨p, q, hA0, hV, rfl, hfz, hnd⟩ := hW
  have hA : DataW.TrodAll enc Tryz.prog W 0 (fun _ => true) true Tryz.f5.params.toList args.toList ds p := hA0
  rw [Tryz.params5] at hA hval
  obtain ⟨v0, vs0, d0, ds0, p0, q0, hargs, rfl, rfl, h0, r0⟩ := trodAll_cons hA
  obtain ⟨v1, vs1, d1, ds1, p1, q1, rfl, rfl, rfl, h1, r1⟩ := trodAll_cons r0
  obtain ⟨v2, vs2, d2, ds2, p2, q2, rfl, rfl, rfl, h2, r2⟩ := trodAll_cons r1
  obtain ⟨rfl, rfl, rfl⟩ := trodAll_nil r2
  obtain rfl : args = #[v0, v1, v2] := by cases args; simp_all
  obtain ⟨rfl, rfl⟩ := trodVars_none hV
  have lt0 : ∀ x ∈ p0, x.block < W.heap.size := by obtain ⟨m, hm⟩ := h0; exact DataW.trod_lt m _ _ _ hm
  have lt1 : ∀ x ∈ p1, x.block < W.heap.size := by obtain ⟨m, hm⟩ := h1; exact DataW.trod_lt m _ _ _ hm
  have lt2 : ∀ x ∈ p2, x.block < W.heap.size := by obtain ⟨m, hm⟩ := h2; exact DataW.trod_lt m _ _ _ hm
  obtain ⟨m0, u0, s0⟩ := open_cert (hval 0 71 v0 rfl rfl) h0
  have hb0 := bk_ce m0 (Nat.le_trans s0 (Nat.le_trans (bulk_mem (d := d0) (by simp)) hbulk))
  obtain ⟨m1, u1, s1⟩ := open_cert (hval 1 71 v1 rfl rfl) h1
  have hb1 := bk_ce m1 (Nat.le_trans s1 (Nat.le_trans (bulk_mem (d := d1) (by simp)) hbulk))
  obtain ⟨l2, u2, s2⟩ := open_bytes (hval 2 22 v2 rfl rfl) h2
  have hb2 := Nat.le_trans s2 (Nat.le_trans (bulk_mem (d := d2) (by simp)) hbulk)
  refine (calls m0 v0 m1 v1 l2 v2 W (glob W hL) u0 hb0 u1 hb1 u2 hb2).mono fun e W' ⟨he, bel⟩ => ?_
  subst he
  exact ⟨_, rfl, _, _, _, [], _, [], hW', trodAll_mk1 (shut_bool Tryz.underlying4 _), (trodAll_cons_mk (Below.trod laidOut (by kernel_rfl) (of_decide_eq_true (by kernel_rfl)) h0 bel lt0) (trodAll_cons_mk (Below.trod laidOut (by kernel_rfl) (of_decide_eq_true (by kernel_rfl)) h1 bel lt1) (trodAll_cons_mk (Below.trod laidOut (by kernel_rfl) (of_decide_eq_true (by kernel_rfl)) h2 bel lt2) trodAll_mk0))), rfl, bel.frame _, fun h => by cases h⟩
theorem over : Rows.certApartUptoRow.holds Tryz.pinned (Rows.OpenSpec.upto Rows.certApartSpec) :=
  OpenClaim.holds_of_cond 5 Tryz.f5 rfl rfl rfl rfl rfl rfl rfl ⟨rfl, rfl, rfl, rfl, rfl⟩ rfl rfl rfl rfl rfl certApartFacts.k5 Tryz.func5 certApartFacts.closed
    certApartFacts.k7 (by unfold Func.isWrapper; first | (rw [if_pos (by decide +kernel)]; kernel_rfl) | (rw [if_neg (by decide +kernel)]; exact ⟨rfl, rfl⟩))
    (fun os started H enc _ F => by rw [OpenClaim.pre_eq_preRow]; exact lifted os started H enc F)
theorem proved : Rows.CertApartUptoSaid := over
theorem card : Rows.CertApartUptoCardSaid :=
  Claim7.holds_tied_plain_at .later [] [.data, .data, .data, .data, .sentinel, .sentinel, .data, .data, .widerDeep, .pinned] true (true, "ca4ef3a2e58fbf2a35acf9ca5429267dbc7c6c920d6ee0cd92eb8469b75f9bb4") true over (fun _ h => by cases h) certApartFacts.k1 (fun _ h => by cases h) certApartUpto_row_tie rfl ⟨rfl, rfl⟩ certApartFacts.k2 rfl
    (fun f fn hf hfn => by
      obtain rfl : f = 5 := Option.some.inj (certApartFacts.k5.symm.trans hf) |>.symm
      obtain rfl : fn = Tryz.f5 := (Option.some.inj (Tryz.func5.symm.trans hfn)).symm
      exact ⟨certApartFacts.k3, fun j t ht => by
        rw [Tryz.params5] at ht
        have hm : t ∈ [71, 71, 22] := by simpa using Array.mem_of_getElem? ht
        have hall : ([71, 71, 22].all fun u => !Tryz.prog.wantsStandIn u) = true := by kernel_rfl
        exact (show Tryz.prog.wantsStandIn t = false by simpa using List.all_eq_true.1 hall t hm)⟩)
    certApartFacts.k4
#print axioms card
end Go.Proofs.YtpajpkbipagjpaaGreatDoor.certApart
namespace Go.Proofs.YtpajpkbipagjpaaGreatDoor
theorem certApart_holds : Rows.CertApartUptoCardSaid := certApart.card
end Go.Proofs.YtpajpkbipagjpaaGreatDoor


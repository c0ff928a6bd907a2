/- The row and the card of CertSmall (the form whose arguments are of bulk at most 1048576): algorithms, names and imprints that are built are read as they were; what is read is built as it was. No condition. -/
import Derived.Test.YtpajpkbipagjpaaGreatDoorFaCertSmall
import Derived.Test.YtpajpkbipagjpaaGreatDoorX17
import Derived.Test.YtpajpkbipagjpaaGreatDoorRows
import Derived.Test.YtpajpkbipagjpaaGreatDoorTie
import Derived.Test.YtpajpkbipagjpaaGreatDoorCards
import Derived.WalkKit
import Derived.ProofKit
import Derived.OpenShut
import Derived.ShutString
import Derived.ChangeMaps5
import Derived.ChangeOld
import Derived.Below
import Derived.SizedLaws
import Derived.Lib.SmallJoins
import Derived.Carry
import Derived.LaidMore
import Derived.Lay
import Derived.SevenTiedAt
import Derived.Stop.Joined
import Derived.JoinedCond
import Derived.Deep.DeepHandedRow
import Derived.Lib.LaidTab
set_option linter.unusedVariables false
set_option linter.unusedSimpArgs false
set_option maxRecDepth 100000
namespace Go.Proofs.YtpajpkbipagjpaaGreatDoor.certSmall
open Go.ChangeShapes Go.WideShapes Go.ChangeAt Go.RowKit Go.Joins
theorem laidOut : laidOutB Tryz.prog = true := by kernel_rfl
theorem own : ownKnob Tryz.prog.godebug = none := by kernel_rfl
open Go.Proofs.YtpajpkbipagjpaaGreatDoor.Vm Go.Proofs.YtpajpkbipagjpaaGreatDoor.Oc in
theorem glob (W : World) (h : laidMetH Tryz.prog Rows.certSmallUptoRow.laid W) : Glob E1 W (All W) := by
  rw [MakeChecks.laidMetH_plain _ _ _ (by kernel_rfl)] at h
  exact glob1_of h (by simp [Rows.certSmallUptoRow]) (by simp [Rows.certSmallUptoRow]) (by simp [Rows.certSmallUptoRow]) (by simp [Rows.certSmallUptoRow]) (by simp [Rows.certSmallUptoRow]) (by simp [Rows.certSmallUptoRow]) (by simp [Rows.certSmallUptoRow]) (by simp [Rows.certSmallUptoRow]) 
open Go.Proofs.YtpajpkbipagjpaaGreatDoor.Vm Go.Proofs.YtpajpkbipagjpaaGreatDoor.Oc in
theorem RVs_nil {w : World} {I : Cset} : RVs w I [] [] := by simp only [RVs]
open Go.Proofs.YtpajpkbipagjpaaGreatDoor.Vm Go.Proofs.YtpajpkbipagjpaaGreatDoor.Oc in
theorem RVs_cons {w : World} {I : Cset} {d : Go.Proofs.YtpajpkbipagjpaaGreatDoor.Vm.Data} {v : Value} {ds : List Go.Proofs.YtpajpkbipagjpaaGreatDoor.Vm.Data} {vs : List Value} (h : RV w I d v) (hs : RVs w I ds vs) : RVs w I (d :: ds) (v :: vs) := by
  simp only [RVs]; exact ⟨v, vs, rfl, h, hs⟩
theorem u8_of {n : Int} (h : (Lit.int .u8 n).wf = true) : 0 ≤ n ∧ n ≤ 255 := by
  rw [Lit.wf, Bool.and_eq_true, decide_eq_true_eq, decide_eq_true_eq] at h
  rw [show IntKind.u8.min = 0 by decide, show IntKind.u8.max = 255 by decide] at h
  exact h
open Go.Proofs.YtpajpkbipagjpaaGreatDoor.Vm Go.Proofs.YtpajpkbipagjpaaGreatDoor.Oc in
theorem RV_int {w : World} {I : Cset} {k : IntKind} {n : Int} : RV w I (.int k n) (.int k n) := by simp only [RV]
open Go.Proofs.YtpajpkbipagjpaaGreatDoor.Vm Go.Proofs.YtpajpkbipagjpaaGreatDoor.Oc in
theorem RV_bool {w : World} {I : Cset} {b : Bool} : RV w I (.bool b) (.bool b) := by simp only [RV]
open Go.Proofs.YtpajpkbipagjpaaGreatDoor.Vm Go.Proofs.YtpajpkbipagjpaaGreatDoor.Oc in
theorem rowsBulk {H : Type} : Bulk (Rows.uptoBulk (H := H)) Rows.uptoBulkAll where
  lit l := by cases l <;> simp [Rows.uptoBulk]
  str s := by simp [Rows.uptoBulk]
  nil := by simp [Rows.uptoBulk]
  slice xs ys := by simp only [Rows.uptoBulk]; omega
  agg xs := by simp only [Rows.uptoBulk]; omega
  cons d r := by simp only [Rows.uptoBulkAll]; omega
theorem isAgg {W : World} {r : Reach} {b0 : Nat} {t : TypeId} {fs : Array Field} {v : Value} (ht : Tryz.prog.underlying t = some (.struct fs)) (h : Value.okWide Tryz.prog W r b0 t v) : ∃ cs, v = .agg cs := by
  unfold Value.okWide at h
  rw [ht] at h
  obtain ⟨cs, h, _⟩ := h
  exact ⟨cs, h⟩
open Go.Proofs.YtpajpkbipagjpaaGreatDoor.Vm Go.Proofs.YtpajpkbipagjpaaGreatDoor.Oc Go.Proofs.YtpajpkbipagjpaaGreatDoor.Tr in
theorem nodeTy : NodeTy Tryz.prog 25 3 4 22 5 23 :=
  ⟨⟨_, _, _, _, _, Tryz.underlying25, rfl, rfl, rfl, rfl, rfl, rfl, rfl, rfl, rfl, rfl⟩, Tryz.underlying3, Tryz.underlying4, Tryz.underlying22, Tryz.underlying5, Tryz.underlying23, by kernel_rfl, by kernel_rfl, by kernel_rfl, by kernel_rfl, by kernel_rfl⟩
open Go.Proofs.YtpajpkbipagjpaaGreatDoor.Vm Go.Proofs.YtpajpkbipagjpaaGreatDoor.Oc Go.Proofs.YtpajpkbipagjpaaGreatDoor.Tr in
theorem open_node {H : Type} {enc : TypeId × Value → H} {W : World} {r : Reach} {b0 : Nat} {v : Value} {d : DataW H} {p : List MemPlace} (hv : Value.okWide Tryz.prog W r b0 25 v)
    (h : DataW.Trod enc Tryz.prog W 0 (fun _ => true) true 25 v d p) : ∃ t : T, RV W (All W) (.agg (nodeC t)) v ∧ t.sz ≤ Rows.uptoBulk d := by
  obtain ⟨cs, hcs⟩ := isAgg Tryz.underlying25 hv
  obtain ⟨n, ds, h1, h2, h3⟩ := told_agg rowsBulk (S := [3, 4, 5, 22, 23, 25]) (by kernel_rfl) (by decide) hcs h
  obtain ⟨t, rfl⟩ := CT_node nodeTy n ds h1
  exact ⟨t, h2, by rw [← bk_node]; exact h3⟩
open Go.Proofs.YtpajpkbipagjpaaGreatDoor.Vm Go.Proofs.YtpajpkbipagjpaaGreatDoor.Oc Go.Proofs.YtpajpkbipagjpaaGreatDoor.Tr in
theorem rdTy : RdTy Tryz.prog 52 3 9 4 :=
  ⟨⟨_, _, _, Tryz.underlying52, rfl, rfl, rfl, rfl, rfl, rfl⟩, Tryz.underlying3, Tryz.underlying9, Tryz.underlying4, by kernel_rfl, by kernel_rfl, by kernel_rfl, by kernel_rfl⟩
theorem oneSlice {W : World} {r : Reach} {b0 : Nat} {t e : TypeId} {v : Value} (ht : Tryz.prog.underlying t = some (.slice e)) (h : Value.okWide Tryz.prog W r b0 t v) : v.cells = #[v] := by
  unfold Value.okWide at h
  rw [ht] at h
  dsimp only at h
  unfold Cell.okWide at h
  rw [ht] at h
  cases v <;> first | rfl | (exfalso; dsimp only at h; unfold Cell.ok at h; rw [ht] at h; exact h)
open Go.Proofs.YtpajpkbipagjpaaGreatDoor.Vm Go.Proofs.YtpajpkbipagjpaaGreatDoor.Oc Go.Proofs.YtpajpkbipagjpaaGreatDoor.Tr in
theorem open_name {H : Type} {enc : TypeId × Value → H} {W : World} {r : Reach} {b0 : Nat} {v : Value} {d : DataW H} {p : List MemPlace} (hv : Value.okWide Tryz.prog W r b0 48 v)
    (h : DataW.Trod enc Tryz.prog W 0 (fun _ => true) true 48 v d p) : ∃ l : List Rd, RV W (All W) (.lst (rdsD l)) v ∧ l.length ≤ Rows.uptoBulk d ∧ ∀ j, (l.getD j Rd.zero).text.length ≤ Rows.uptoBulk d := by
  obtain ⟨n, d', h1, h2, h3⟩ := told_one rowsBulk (S := [3, 4, 9, 52, 48]) (by kernel_rfl) (by decide) (oneSlice Tryz.underlying48 hv) h
  obtain ⟨l, hl⟩ := CT_rds rdTy Tryz.underlying48 h1
  injection hl with hl _
  subst hl
  have h4 : bkE (rdsD l) ≤ Rows.uptoBulk d := Nat.le_trans (by simp only [bk]; omega) h3
  exact ⟨l, h2, Nat.le_trans (bk_rds l) h4, fun j => Nat.le_trans (bk_rds2 l j) h4⟩
open Go.Proofs.YtpajpkbipagjpaaGreatDoor.Vm Go.Proofs.YtpajpkbipagjpaaGreatDoor.Oc Go.Proofs.YtpajpkbipagjpaaGreatDoor.Tr in
theorem imTy : ImTy Tryz.prog 50 30 4 22 5 :=
  ⟨⟨_, _, _, Tryz.underlying50, rfl, rfl, rfl, rfl, rfl, rfl⟩, Tryz.underlying30, Tryz.underlying4, Tryz.underlying22, Tryz.underlying5, by kernel_rfl, by kernel_rfl, by kernel_rfl, by kernel_rfl⟩
open Go.Proofs.YtpajpkbipagjpaaGreatDoor.Vm Go.Proofs.YtpajpkbipagjpaaGreatDoor.Oc Go.Proofs.YtpajpkbipagjpaaGreatDoor.Tr in
theorem open_imp {H : Type} {enc : TypeId × Value → H} {W : World} {r : Reach} {b0 : Nat} {v : Value} {d : DataW H} {p : List MemPlace} (hv : Value.okWide Tryz.prog W r b0 50 v)
    (h : DataW.Trod enc Tryz.prog W 0 (fun _ => true) true 50 v d p) : ∃ x : Im, RV W (All W) (.agg (imC x)) v ∧ x.dig.length ≤ Rows.uptoBulk d := by
  obtain ⟨cs, hcs⟩ := isAgg Tryz.underlying50 hv
  obtain ⟨n, ds, h1, h2, h3⟩ := told_agg rowsBulk (S := [30, 4, 5, 22, 50]) (by kernel_rfl) (by decide) hcs h
  obtain ⟨x, rfl⟩ := CT_im imTy h1
  exact ⟨x, h2, Nat.le_trans (bk_im x) h3⟩
open Go.Proofs.YtpajpkbipagjpaaGreatDoor.Vm Go.Proofs.YtpajpkbipagjpaaGreatDoor.Oc Go.Proofs.YtpajpkbipagjpaaGreatDoor.Tr in
theorem calls (l0 : Int) (l1 : Int) (l2 : List Rd) (v2 : Value) (m3 : Im) (v3 : Value) (t4 : T) (v4 : Value) (w : World) (hG : Glob E1 w (All w)) (hb0 : 0 ≤ l0 ∧ l0 ≤ 255) (hb1 : 0 ≤ l1 ∧ l1 ≤ 255) (u2 : RV w (All w) (.lst (rdsD l2)) v2) (hb2 : l2.length ≤ 1048576) (hc2 : ∀ j, (l2.getD j Rd.zero).text.length ≤ 1048576) (u3 : RV w (All w) (.agg (imC m3)) v3) (hb3 : m3.dig.length ≤ 1048576) (u4 : RV w (All w) (.agg (nodeC t4)) v4) (hb4 : t4.sz ≤ 1048576) : Calls Tryz.prog 6 #[.int .u8 l0, .int .u8 l1, v2, v3, v4] w fun e w' => e = .returned (.bool true) ∧ Below w.heap.size w w' := by
  have hpre : lsmall_1F.pre [.int .u8 l0, .int .u8 l1, .lst (rdsD l2), .agg (imC m3), .agg (nodeC t4)] := by
    simp -implicitDefEqProofs only [go_sem]
    exact ⟨hb0, hb1, ⟨by omega, fun j => Nat.le_trans (hc2 j) (by decide)⟩, hb3, hb4⟩
  have hres : lsmall_1F.res [.int .u8 l0, .int .u8 l1, .lst (rdsD l2), .agg (imC m3), .agg (nodeC t4)] = [.bool true] := by simp -implicitDefEqProofs only [go_sem]
  refine ((lsmall_1_ok w (All w) #[.int .u8 l0, .int .u8 l1, v2, v3, v4] [.int .u8 l0, .int .u8 l1, .lst (rdsD l2), .agg (imC m3), .agg (nodeC t4)] (fun _ _ h => h) hG (RVs_cons RV_int (RVs_cons RV_int (RVs_cons u2 (RVs_cons u3 (RVs_cons u4 RVs_nil))))) hpre).calls fun _ _ h => by simp [Fw, Fence.wide] at h).mono ?_
  rintro e w' ⟨v, rfl, hb, hv⟩
  rw [hres] at hv
  simp only [retD, RVD, RV] at hv
  subst hv
  exact ⟨rfl, hb⟩
theorem bulk_mem {H : Type} {d : DataW H} {l : List (DataW H)} (h : d ∈ l) : Rows.uptoBulk d ≤ Rows.uptoBulkAll l := by
  induction l with
  | nil => cases h
  | cons x r ih =>
    simp only [Rows.uptoBulkAll]
    cases List.mem_cons.1 h with
    | inl e => subst e; omega
    | inr e => have := ih e; omega
theorem reads (os : Os) {H : Type} (enc : TypeId × Value → H) : DataW.whole enc Tryz.prog ((World.laidAll Tryz.prog os Rows.certSmallUptoRow.laid).forCall (fun _ _ => 0) ⟨#[], #[.int .u8 0, .int .u8 0, .slice none 0 0, .agg #[.int .i64 0, .bool false, .slice none 0 0], .agg #[.int .i64 0, .int .i64 0, .bool false, .slice none 0 0, .slice none 0 0]], []⟩).memory Tryz.f6.params.toList Rows.certSmallSpec.vars false #[(.int .u8 0 : Value), (.int .u8 0 : Value), (.slice none 0 0 : Value), (.agg #[.int .i64 0, .bool false, .slice none 0 0] : Value), (.agg #[.int .i64 0, .int .i64 0, .bool false, .slice none 0 0, .slice none 0 0] : Value)].toList 8 = some ([.lit (.int .u8 0), .lit (.int .u8 0), .nil, .agg [.lit (.int .i64 0), .lit (.bool false), .nil], .agg [.lit (.int .i64 0), .lit (.int .i64 0), .lit (.bool false), .nil, .nil]], [], []) := by kernel_rfl
set_option maxRecDepth 100000 in
theorem lifted (os : Os) (started : os.Started) (H : Type) (enc : TypeId × Value → H) (F : Stop.Interp) :
    ReturnsInHanded {} Tryz.checked os 6 .any ((Rows.OpenSpec.upto Rows.certSmallSpec).preRow enc Tryz.prog Tryz.f6 Rows.certSmallUptoRow.domain false Rows.certSmallUptoRow.laid) (((Rows.OpenSpec.upto Rows.certSmallSpec).at F).post enc Tryz.prog Tryz.f6 false true false false) := by
  have hok : Input.okWideB Tryz.prog ((World.laidAll Tryz.prog os Rows.certSmallUptoRow.laid).forCall (fun _ _ => 0) ⟨#[], #[.int .u8 0, .int .u8 0, .slice none 0 0, .agg #[.int .i64 0, .bool false, .slice none 0 0], .agg #[.int .i64 0, .int .i64 0, .bool false, .slice none 0 0, .slice none 0 0]], []⟩) 6 ⟨#[], #[.int .u8 0, .int .u8 0, .slice none 0 0, .agg #[.int .i64 0, .bool false, .slice none 0 0], .agg #[.int .i64 0, .int .i64 0, .bool false, .slice none 0 0, .slice none 0 0]], []⟩ = true := by kernel_rfl
  refine returnsInHanded_of_row (C := Tryz.checked) (s := Rows.OpenSpec.upto Rows.certSmallSpec) own started (by kernel_rfl) Tryz.func6
    ⟨World.laidAll Tryz.prog os Rows.certSmallUptoRow.laid, fun _ _ => 0, ⟨#[], #[.int .u8 0, .int .u8 0, .slice none 0 0, .agg #[.int .i64 0, .bool false, .slice none 0 0], .agg #[.int .i64 0, .int .i64 0, .bool false, .slice none 0 0, .slice none 0 0]], []⟩, World.laidAll_os _ _ _, World.shaped_of_ZipB (by kernel_rfl) (by kernel_rfl), rfl, (Input.okWide_of_okWideB hok).2,
      OpenSpec.preRow_of_cond 8 (reads os enc) (by kernel_rfl) (fun k hk => by cases hk; kernel_rfl) (by kernel_rfl) (by rw [MakeChecks.laidMetH_plain _ _ _ (by kernel_rfl)]; exact laidMet_laidAll _ (by kernel_rfl) (by kernel_rfl)), by
        simp only [Assume.holds]
        exact ⟨by simp, by simp, fun _ => Modest.zero, by simp, by simp⟩⟩ ?_
  intro W base args ds gs before hval0 hW _ hcond _ hL _ _
  have hval : ∀ (j : Nat) t v, Tryz.f6.params[j]? = some t → args[j]? = some v → Value.okWide Tryz.prog W .any base t v := hval0
  have hbulk : Rows.uptoBulkAll (ds ++ gs) ≤ 1048576 := of_decide_eq_true (hcond _ rfl)
  have hW' := hW
  obtain ⟨p, q, hA0, hV, rfl, hfz, hnd⟩ := hW
  have hA : DataW.TrodAll enc Tryz.prog W 0 (fun _ => true) true Tryz.f6.params.toList args.toList ds p := hA0
  rw [Tryz.params6] at hA hval
  obtain ⟨v0, vs0, d0, ds0, p0, q0, hargs, rfl, rfl, h0, r0⟩ := trodAll_cons hA
  obtain ⟨v1, vs1, d1, ds1, p1, q1, rfl, rfl, rfl, h1, r1⟩ := trodAll_cons r0
  obtain ⟨v2, vs2, d2, ds2, p2, q2, rfl, rfl, rfl, h2, r2⟩ := trodAll_cons r1
  obtain ⟨v3, vs3, d3, ds3, p3, q3, rfl, rfl, rfl, h3, r3⟩ := trodAll_cons r2
  obtain ⟨v4, vs4, d4, ds4, p4, q4, rfl, rfl, rfl, h4, r4⟩ := trodAll_cons r3
  obtain ⟨rfl, rfl, rfl⟩ := trodAll_nil r4
  obtain rfl : args = #[v0, v1, v2, v3, v4] := by cases args; simp_all
  obtain ⟨rfl, rfl⟩ := trodVars_none hV
  have lt0 : ∀ x ∈ p0, x.block < W.heap.size := by obtain ⟨m, hm⟩ := h0; exact DataW.trod_lt m _ _ _ hm
  have lt1 : ∀ x ∈ p1, x.block < W.heap.size := by obtain ⟨m, hm⟩ := h1; exact DataW.trod_lt m _ _ _ hm
  have lt2 : ∀ x ∈ p2, x.block < W.heap.size := by obtain ⟨m, hm⟩ := h2; exact DataW.trod_lt m _ _ _ hm
  have lt3 : ∀ x ∈ p3, x.block < W.heap.size := by obtain ⟨m, hm⟩ := h3; exact DataW.trod_lt m _ _ _ hm
  have lt4 : ∀ x ∈ p4, x.block < W.heap.size := by obtain ⟨m, hm⟩ := h4; exact DataW.trod_lt m _ _ _ hm
  obtain ⟨l0, rfl, rfl, rfl, w0⟩ := open_int Tryz.underlying5 (hval 0 5 v0 rfl rfl) h0
  obtain ⟨l1, rfl, rfl, rfl, w1⟩ := open_int Tryz.underlying5 (hval 1 5 v1 rfl rfl) h1
  obtain ⟨l2, u2, s2, e2⟩ := open_name (hval 2 48 v2 rfl rfl) h2
  have hb2 := Nat.le_trans s2 (Nat.le_trans (bulk_mem (d := d2) (by simp)) hbulk)
  have hc2 := fun j => Nat.le_trans (e2 j) (Nat.le_trans (bulk_mem (d := d2) (by simp)) hbulk)
  obtain ⟨m3, u3, s3⟩ := open_imp (hval 3 50 v3 rfl rfl) h3
  have hb3 := Nat.le_trans s3 (Nat.le_trans (bulk_mem (d := d3) (by simp)) hbulk)
  obtain ⟨t4, u4, s4⟩ := open_node (hval 4 25 v4 rfl rfl) h4
  have hb4 := Nat.le_trans s4 (Nat.le_trans (bulk_mem (d := d4) (by simp)) hbulk)
  refine (calls l0 l1 l2 v2 m3 v3 t4 v4 W (glob W hL) (u8_of w0) (u8_of w1) u2 hb2 hc2 u3 hb3 u4 hb4).mono fun e W' ⟨he, bel⟩ => ?_
  subst he
  exact ⟨_, rfl, _, _, _, [], _, [], hW', trodAll_mk1 (shut_bool Tryz.underlying4 _), (trodAll_cons_mk (Below.trod laidOut (by kernel_rfl) (of_decide_eq_true (by kernel_rfl)) h0 bel lt0) (trodAll_cons_mk (Below.trod laidOut (by kernel_rfl) (of_decide_eq_true (by kernel_rfl)) h1 bel lt1) (trodAll_cons_mk (Below.trod laidOut (by kernel_rfl) (of_decide_eq_true (by kernel_rfl)) h2 bel lt2) (trodAll_cons_mk (Below.trod laidOut (by kernel_rfl) (of_decide_eq_true (by kernel_rfl)) h3 bel lt3) (trodAll_cons_mk (Below.trod laidOut (by kernel_rfl) (of_decide_eq_true (by kernel_rfl)) h4 bel lt4) trodAll_mk0))))), rfl, bel.frame _, fun h => by cases h⟩
theorem over : Rows.certSmallUptoRow.holds Tryz.pinned (Rows.OpenSpec.upto Rows.certSmallSpec) :=
  OpenClaim.holds_of_cond 6 Tryz.f6 rfl rfl rfl rfl rfl rfl rfl ⟨rfl, rfl, rfl, rfl, rfl⟩ rfl rfl rfl rfl rfl certSmallFacts.k5 Tryz.func6 certSmallFacts.closed
    certSmallFacts.k7 (by unfold Func.isWrapper; first | (rw [if_pos (by decide +kernel)]; kernel_rfl) | (rw [if_neg (by decide +kernel)]; exact ⟨rfl, rfl⟩))
    (fun os started H enc _ F => by rw [OpenClaim.pre_eq_preRow]; exact lifted os started H enc F)
theorem proved : Rows.CertSmallUptoSaid := over
theorem card : Rows.CertSmallUptoCardSaid :=
  Claim7.holds_tied_plain_at .later [] [.data, .data, .data, .data, .sentinel, .sentinel, .data, .data, .widerDeep, .pinned] true (true, "ca4ef3a2e58fbf2a35acf9ca5429267dbc7c6c920d6ee0cd92eb8469b75f9bb4") true over (fun _ h => by cases h) certSmallFacts.k1 (fun _ h => by cases h) certSmallUpto_row_tie rfl ⟨rfl, rfl⟩ certSmallFacts.k2 rfl
    (fun f fn hf hfn => by
      obtain rfl : f = 6 := Option.some.inj (certSmallFacts.k5.symm.trans hf) |>.symm
      obtain rfl : fn = Tryz.f6 := (Option.some.inj (Tryz.func6.symm.trans hfn)).symm
      exact ⟨certSmallFacts.k3, fun j t ht => by
        rw [Tryz.params6] at ht
        have hm : t ∈ [5, 5, 48, 50, 25] := by simpa using Array.mem_of_getElem? ht
        have hall : ([5, 5, 48, 50, 25].all fun u => !Tryz.prog.wantsStandIn u) = true := by kernel_rfl
        exact (show Tryz.prog.wantsStandIn t = false by simpa using List.all_eq_true.1 hall t hm)⟩)
    certSmallFacts.k4
#print axioms card
end Go.Proofs.YtpajpkbipagjpaaGreatDoor.certSmall
namespace Go.Proofs.YtpajpkbipagjpaaGreatDoor
theorem certSmall_holds : Rows.CertSmallUptoCardSaid := certSmall.card
end Go.Proofs.YtpajpkbipagjpaaGreatDoor


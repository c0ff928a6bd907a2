/- What functions of the program, of its library and of the document compute: their contracts, and laws about what they compute (X19). No condition. -/
import Derived.Test.YtpajpkbipagjpaaGreatDoorX18
import Derived.Test.YtpajpkbipagjpaaGreatDoorX06
import Derived.Test.YtpajpkbipagjpaaGreatDoorX07
import Derived.Test.YtpajpkbipagjpaaGreatDoorX12
set_option linter.unusedVariables false
set_option linter.unusedSimpArgs false
namespace Go.Proofs.YtpajpkbipagjpaaGreatDoor.Oc
open Go Go.RowKit Go.Proofs.YtpajpkbipagjpaaGreatDoor.Vm Go.Proofs.YtpajpkbipagjpaaGreatDoor.Tr Go.IntWalk
set_option maxRecDepth 100000
set_option maxHeartbeats 4000000
noncomputable def ΦEB : Fns := tab []
theorem ΦEB_ok : Sound E ΦEB := sound_nil
@[go_sem] theorem ΦEB_r : ΦEB 189 = none ∧ ΦEB 140 = none ∧ ΦEB 188 = none := ⟨rfl, rfl, rfl⟩
@[go_sem] theorem ΦEB_c : callable Tryz.prog 189 = true ∧ callable Tryz.prog 140 = true ∧ callable Tryz.prog 188 = true := ⟨by kernel_rfl, by kernel_rfl, by kernel_rfl⟩
@[go_sem] noncomputable def dbytesF : PFn := PF [SPt] (fun (t : T) => (∀ x ∈ t.all, okN x) ∧ t.sz ≤ 100) (fun (t : T) => [.lst (bytesD (encT t))])
theorem dbytes_ok : Pure E 99 dbytesF := Pure.of_sig (rs := [.tmp 2]) (n := 15) Tryz.func99 rfl rfl rfl (Nat.le_of_ble_eq_true rfl) (by
 intro (t : T) hds
 have hal := enc_le (t := t) (by omega)
 refine st0 ?_
 refine rg ΦEB_ok [0, 4] trivial ?_
 refine rg ΦEB_ok [0, 3, 4] trivial ?_
 refine rB ΦEB_ok [3, 4, 6] trivial fun K' hK => ?_
 repeat' first | with_reducible apply And.intro | exact sd | exact sde trivial | exact sdp trivial | refine stk trivial ?_ | fail
 refine ec (rs := [.tmp 2]) (n := 4) Tryz.func140 rfl rfl rfl ?_
 refine rg ΦEB_ok [1] trivial ?_
 refine rg ΦEB_ok [2] trivial ?_
 refine nx ?_
 refine rt trivial ?_
 repeat' first | (refine lf hK trivial ?_; clear hK K') | with_reducible apply And.intro | exact sd | exact sde trivial | exact sdp trivial | refine stk trivial ?_ | fail
 all_goals
  refine nlc 1 0 3 5 1 ?_
  refine nx ?_
  refine re (rs := []) (n := 6) 20 21 Tryz.func188 rfl rfl rfl fun A B hA hB => ?_
  refine rBL ΦEB_ok  trivial fun K' hK => ?_
  repeat' first | with_reducible apply And.intro | exact sd | exact sde trivial | exact sdp trivial | refine stk trivial ?_ | fail
  refine VCcall.ro (st1 := ⟨_, _, (fun (out : List UInt8) => [(3, .arr 5 1 (bytesD out) 0), (21, .loop [(3, .ref 1 0), (4, .junk), (6, .fn (.func 188) [] [.ref 2 0])] 15 [7] A B .ready none), (20, .defer), (2, .cells [.dat (.ptr [.int .i64 t.cls, .int .i64 t.tag, .bool t.cons, .lst (bytesD t.bytes), .lst (nodesD t.kids)])] false), (1, .cells [.sl 3 0 out.length] false)]) []⟩) ⟨rfl, rfl, find_ro (by intro x hx; simp only [List.mem_cons, List.not_mem_nil, or_false] at hx; rcases hx with rfl | rfl | rfl | rfl | rfl <;> rfl) (by intro x hx; simp only [List.mem_cons, List.not_mem_nil, or_false] at hx; rcases hx with rfl | rfl | rfl | rfl | rfl <;> rfl)⟩ ?_
  refine tell_ok (H := fun (out : List UInt8) => [(3, .arr 5 1 (bytesD out) 0), (21, .loop [(3, .ref 1 0), (4, .junk), (6, .fn (.func 188) [] [.ref 2 0])] 15 [7] A B .ready none), (20, .defer), (2, .cells [.dat (.ptr [.int .i64 t.cls, .int .i64 t.tag, .bool t.cons, .lst (bytesD t.bytes), .lst (nodesD t.kids)])] false), (1, .cells [.sl 3 0 out.length] false)]) (LIM := 100) ?_ t.sz t (Nat.le_refl _) hds.2 hds.1 _ _ [] _ ⟨rfl, rfl, by simp, by simp [Vm.noMark]⟩ (by rw [List.nil_append]; omega) ?_
  ·intro b out c stk K hcl hb hK; rw [List.length_append] at hb; refine VCyield.ro ?_
   unfold Cln at hcl
   refine yd hA ?_
   refine rgL ΦEB_ok trivial ?_
   refine nx ?_
   refine yb hB ?_
   refine rg ΦEB_ok [3, 4, 10] trivial ?_
   refine cn ?_ ?_
   ·intro h; try exact na h
    all_goals
     refine nx ?_
     refine rt trivial ?_
     refine ⟨_, ⟨rfl, rfl, fun _ => rfl⟩, ?_⟩
     first
     | (have h0 : b = [] := List.eq_nil_of_length_eq_zero (by omega); rw [h0, List.append_nil] at hK; exact hK)
     | (rw [List.length_append] at hK; exact hK)
   ·intro h; try exact na h
    all_goals
     refine rgL ΦEB_ok hcl ?_
     refine nx ?_
     refine rt trivial ?_
     refine ⟨_, ⟨rfl, rfl, fun _ => rfl⟩, ?_⟩
     first
     | (have h0 : b = [] := List.eq_nil_of_length_eq_zero (by omega); rw [h0, List.append_nil] at hK; exact hK)
     | (rw [List.length_append] at hK; exact hK)
  rw [List.nil_append]
  refine rt trivial ?_
  repeat' first | (refine lfL hK trivial ?_; clear hK K') | with_reducible apply And.intro | exact sd | exact sde trivial | exact sdp trivial | refine stk trivial ?_ | fail
  all_goals
   refine nx ?_
   refine rt trivial ?_
   refine ya ?_
   refine rg ΦEB_ok [2] trivial ?_
   refine nx ?_
   refine pureK_r (pureS_one (l := 20) (by simp -implicitDefEqProofs only [go_sem]) ?_)
   first
   | exact fz trivial)
def noSet (t : T) : Prop := ∀ x ∈ t.all, ¬ (x.cls = 0 ∧ x.tag = 17)
theorem noSet_kid {t : T} (h : noSet t) {i : Nat} (hi : i < t.kids.length) : noSet (t.kids.getD i T.zero) := kid_good h hi
noncomputable def ΦSe : Fns := tab [(106, tisF)]
theorem ΦSe_ok : Sound E ΦSe := sound_cons (by kernel_rfl) tis_ok (sound_nil)
@[go_sem] theorem ΦSe_r : ΦSe 106 = some tisF := rfl
@[go_sem] noncomputable def dset0F : PFn := PF [SPt] (fun (t : T) => ¬ (t.cls = 0 ∧ t.tag = 17)) (fun (t : T) => [.bool false])
theorem dset0_ok : Pure E 136 dset0F := Pure.of_sig (rs := [.tmp 2]) (n := 7) Tryz.func136 rfl rfl rfl (Nat.le_of_ble_eq_true rfl) (by
 intro (t : T) hds
 refine st0 ?_
 refine rg ΦSe_ok [0] trivial ?_
 refine rg ΦSe_ok [2] trivial ?_
 refine fi trivial ?_
 trace_state
 simp_all)
@[go_sem] noncomputable def ordF (n : Nat) : PFn := PF [SPt] (fun (t : T) => t.sz < n ∧ t.sz ≤ 90000 ∧ noSet t) (fun (t : T) => [.bool true])
noncomputable def ΦOr (m : Nat) : Fns := tab [(136, dset0F), (98, ordF m)]
theorem ΦOr_ok {m : Nat} (h : Pure E 98 (ordF m)) : Sound E (ΦOr m) := sound_cons (by kernel_rfl) dset0_ok (sound_cons (by kernel_rfl) h sound_nil)
@[go_sem] theorem ΦOr_r (m : Nat) : ΦOr m 136 = some dset0F ∧ ΦOr m 98 = some (ordF m) := ⟨rfl, rfl⟩
theorem ord_ok (n : Nat) : Pure E 98 (ordF n) := by
 induction n using Nat.strongRecOn with
 | _ n ih =>
 exact Pure.of_sig (rs := [.tmp 2]) (n := 30) Tryz.func98 rfl rfl rfl (Nat.le_of_ble_eq_true rfl) (by
  intro (t : T) hds
  have hkl := kids_len t
  have h0 := hds.2.2 t (by rw [T.all_eq]; exact List.mem_cons_self)
  have hΦ := ΦOr_ok (ih (t.sz) (by omega))
  refine st0 ?_
  refine rg hΦ [0] trivial ?_
  refine rg hΦ [0, 8, 9] trivial ?_
  refine nx ?_
  refine VC.loopP (ι := Nat) [0, 8] (fun i => [(9, .dat (.int .i64 (i : Int)))]) (fun _ => []) (fun i => i ≤ t.kids.length) (fun i => t.kids.length - i) 0 (by omega) (et) ?_
  rintro i hp; try dsimp only at hp
  refine st0 ?_
  refine rg hΦ [0, 8, 9, 10] trivial ?_
  refine cn ?_ ?_
  ·intro h; try exact na h
   all_goals
    refine rg hΦ [0, 3, 8, 9] trivial ?_
    have hi : i < t.kids.length := by omega
    have hk := T.kid_sz (kid_mem' hi)
    have hg := noSet_kid hds.2.2 hi
    refine rg hΦ [0, 8, 9, 19] (And.intro hg (nodesD_at hi)) ?_
    refine cn ?_ ?_
    ·intro h; try exact na h
     all_goals
      refine rg hΦ [2] trivial ?_
      exact fz trivial
    ·intro h; try exact na h
     all_goals
      refine rgL hΦ trivial ?_
      refine nx ?_
      exact ⟨i + 1, by omega, et, by omega⟩
  ·intro h; try exact na h
   all_goals
    refine rB hΦ [2] trivial fun K' hK => ?_
    repeat' first | (refine lf hK trivial ?_; clear hK K') | with_reducible apply And.intro | refine sA trivial (fun _ => ?_) fun _ => ?_ | refine sAb trivial (fun _ => ?_) fun _ => ?_ | refine sAl trivial (fun g => ?_) fun g => ?_ | exact sd | exact sde trivial | exact sdp trivial | refine stk trivial ?_ | fail
    all_goals
     exact fz trivial)
@[go_sem] noncomputable def ord0F : PFn := ordF 90001
theorem ord0_ok : Pure E 98 ord0F := ord_ok 90001
theorem good_ok {t : T} (h : goodN t) : okN t := by
 obtain ⟨h0, h | h⟩ := h
 ·obtain ⟨_, _, h | h⟩ := h <;> exact ⟨by omega, by omega, by omega, by omega⟩
 ·obtain ⟨_, _, ⟨h, _⟩ | ⟨h, _⟩⟩ := h <;> exact ⟨by omega, by omega, by omega, by omega⟩
def smallT (t : T) : Prop := goodT t ∧ t.sz ≤ 100 ∧ noSet t
theorem small_ok {t : T} (h : smallT t) : ∀ x ∈ t.all, okN x := fun x hx => good_ok (h.1.1 x hx)
noncomputable def ΦEn : Fns := tab [(97, dsizeF), (98, ord0F), (99, dbytesF)]
theorem ΦEn_ok : Sound E ΦEn := sound_cons (by kernel_rfl) dsize_ok (sound_cons (by kernel_rfl) ord0_ok (sound_cons (by kernel_rfl) dbytes_ok (sound_nil)))
@[go_sem] theorem ΦEn_r : ΦEn 97 = some dsizeF ∧ ΦEn 98 = some ord0F ∧ ΦEn 99 = some dbytesF := ⟨rfl, rfl, rfl⟩
@[go_sem] noncomputable def encodeF : PFn := PF [ST] (fun (t : T) => smallT t) (fun (t : T) => [.lst (bytesD (encT t)), .int .i64 0])
theorem encode_ok : Pure E 37 encodeF := Pure.of_sig (rs := [.tmp 2, .tmp 3]) (n := 17) Tryz.func37 rfl rfl rfl (Nat.le_of_ble_eq_true rfl) (by
 intro (t : T) hds
 have hs := hds.2.1
 have hs2 := small_ok hds
 refine st0 ?_
 refine rg ΦEn_ok [1] (And.intro hds.1 (And.intro hds.2.2 (small_ok hds))) ?_
 refine rg ΦEn_ok [1, 5] (And.intro hds.1 (And.intro hds.2.2 (small_ok hds))) ?_
 refine rg ΦEn_ok [1, 5, 12] (And.intro hds.1 (And.intro hds.2.2 (small_ok hds))) ?_
 refine cn ?_ ?_
 ·exact fun h => na h
 intro h
 refine rg ΦEn_ok [1, 15] (And.intro hds.1 (And.intro hds.2.2 (small_ok hds))) ?_
 refine cn ?_ ?_
 ·exact fun h => na h
 intro h
 refine rg ΦEn_ok [2, 3] (And.intro hds.1 (And.intro hds.2.2 (small_ok hds))) ?_
 exact fz (And.intro hds.1 (And.intro hds.2.2 (small_ok hds))))
end Go.Proofs.YtpajpkbipagjpaaGreatDoor.Oc
namespace Go.Proofs.YtpajpkbipagjpaaGreatDoor.Oc
open Go Go.RowKit Go.Proofs.YtpajpkbipagjpaaGreatDoor.Vm Go.Proofs.YtpajpkbipagjpaaGreatDoor.Tr Go.IntWalk
set_option maxRecDepth 100000
set_option maxHeartbeats 4000000
noncomputable def ΦEC : Fns := tab []
theorem ΦEC_ok : Sound E ΦEC := sound_nil
@[go_sem] theorem ΦEC_r : ΦEC 189 = none ∧ ΦEC 140 = none ∧ ΦEC 188 = none := ⟨rfl, rfl, rfl⟩
@[go_sem] noncomputable def gbytesF : PFn := PF [SPt] (fun (t : T) => (∀ x ∈ t.all, okN x) ∧ t.sz ≤ 16000000 ∧ conN t ≤ 65537) (fun (t : T) => [.lst (bytesD (encT t))])
theorem gbytes_ok : Pure E 99 gbytesF := Pure.of_sig (rs := [.tmp 2]) (n := 15) Tryz.func99 rfl rfl rfl (Nat.le_of_ble_eq_true rfl) (by
 intro (t : T) hds
 have hal := enc_le (t := t) (by omega)
 refine st0 ?_
 refine rg ΦEC_ok [0, 4] trivial ?_
 refine rg ΦEC_ok [0, 3, 4] trivial ?_
 refine rB ΦEC_ok [3, 4, 6] trivial fun K' hK => ?_
 repeat' first | with_reducible apply And.intro | exact sd | exact sde trivial | exact sdp trivial | refine stk trivial ?_ | fail
 refine ec (rs := [.tmp 2]) (n := 4) Tryz.func140 rfl rfl rfl ?_
 refine rg ΦEC_ok [1] trivial ?_
 refine rg ΦEC_ok [2] trivial ?_
 refine nx ?_
 refine rt trivial ?_
 repeat' first | (refine lf hK trivial ?_; clear hK K') | with_reducible apply And.intro | exact sd | exact sde trivial | exact sdp trivial | refine stk trivial ?_ | fail
 all_goals
  refine nlc 1 0 3 5 1 ?_
  refine nx ?_
  refine re (rs := []) (n := 6) 20 21 Tryz.func188 rfl rfl rfl fun A B hA hB => ?_
  refine rBL ΦEC_ok  trivial fun K' hK => ?_
  repeat' first | with_reducible apply And.intro | exact sd | exact sde trivial | exact sdp trivial | refine stk trivial ?_ | fail
  refine VCcall.ro (st1 := ⟨_, _, (fun (out : List UInt8) => [(3, .arr 5 1 (bytesD out) 0), (21, .loop [(3, .ref 1 0), (4, .junk), (6, .fn (.func 188) [] [.ref 2 0])] 15 [7] A B .ready none), (20, .defer), (2, .cells [.dat (.ptr [.int .i64 t.cls, .int .i64 t.tag, .bool t.cons, .lst (bytesD t.bytes), .lst (nodesD t.kids)])] false), (1, .cells [.sl 3 0 out.length] false)]) []⟩) ⟨rfl, rfl, find_ro (by intro x hx; simp only [List.mem_cons, List.not_mem_nil, or_false] at hx; rcases hx with rfl | rfl | rfl | rfl | rfl <;> rfl) (by intro x hx; simp only [List.mem_cons, List.not_mem_nil, or_false] at hx; rcases hx with rfl | rfl | rfl | rfl | rfl <;> rfl)⟩ ?_
  refine tell2_ok (H := fun (out : List UInt8) => [(3, .arr 5 1 (bytesD out) 0), (21, .loop [(3, .ref 1 0), (4, .junk), (6, .fn (.func 188) [] [.ref 2 0])] 15 [7] A B .ready none), (20, .defer), (2, .cells [.dat (.ptr [.int .i64 t.cls, .int .i64 t.tag, .bool t.cons, .lst (bytesD t.bytes), .lst (nodesD t.kids)])] false), (1, .cells [.sl 3 0 out.length] false)]) (LIM := 16000000) ?_ t.sz t (Nat.le_refl _) hds.2.1 hds.2.2 hds.1 _ _ [] _ ⟨rfl, rfl, by simp, by simp [Vm.noMark]⟩ (by rw [List.nil_append]; omega) ?_
  ·intro b out c stk K hcl hb hK; rw [List.length_append] at hb; refine VCyield.ro ?_
   unfold Cln at hcl
   refine yd hA ?_
   refine rgL ΦEC_ok trivial ?_
   refine nx ?_
   refine yb hB ?_
   refine rg ΦEC_ok [3, 4, 10] trivial ?_
   refine cn ?_ ?_
   ·intro h; try exact na h
    all_goals
     refine nx ?_
     refine rt trivial ?_
     refine ⟨_, ⟨rfl, rfl, fun _ => rfl⟩, ?_⟩
     first
     | (have h0 : b = [] := List.eq_nil_of_length_eq_zero (by omega); rw [h0, List.append_nil] at hK; exact hK)
     | (rw [List.length_append] at hK; exact hK)
   ·intro h; try exact na h
    all_goals
     refine rgL ΦEC_ok hcl ?_
     refine nx ?_
     refine rt trivial ?_
     refine ⟨_, ⟨rfl, rfl, fun _ => rfl⟩, ?_⟩
     first
     | (have h0 : b = [] := List.eq_nil_of_length_eq_zero (by omega); rw [h0, List.append_nil] at hK; exact hK)
     | (rw [List.length_append] at hK; exact hK)
  rw [List.nil_append]
  refine rt trivial ?_
  repeat' first | (refine lfL hK trivial ?_; clear hK K') | with_reducible apply And.intro | exact sd | exact sde trivial | exact sdp trivial | refine stk trivial ?_ | fail
  all_goals
   refine nx ?_
   refine rt trivial ?_
   refine ya ?_
   refine rg ΦEC_ok [2] trivial ?_
   refine nx ?_
   refine pureK_r (pureS_one (l := 20) (by simp -implicitDefEqProofs only [go_sem]) ?_)
   first
   | exact fz trivial)
@[go_sem] noncomputable def gordF (n : Nat) : PFn := PF [SPt] (fun (t : T) => t.sz < n ∧ t.sz ≤ 16000000 ∧ noSet t) (fun (t : T) => [.bool true])
noncomputable def ΦGd (m : Nat) : Fns := tab [(136, dset0F), (98, gordF m)]
theorem ΦGd_ok {m : Nat} (h : Pure E 98 (gordF m)) : Sound E (ΦGd m) := sound_cons (by kernel_rfl) dset0_ok (sound_cons (by kernel_rfl) h sound_nil)
@[go_sem] theorem ΦGd_r (m : Nat) : ΦGd m 136 = some dset0F ∧ ΦGd m 98 = some (gordF m) := ⟨rfl, rfl⟩
theorem gord_ok (n : Nat) : Pure E 98 (gordF n) := by
 induction n using Nat.strongRecOn with
 | _ n ih =>
 exact Pure.of_sig (rs := [.tmp 2]) (n := 30) Tryz.func98 rfl rfl rfl (Nat.le_of_ble_eq_true rfl) (by
  intro (t : T) hds
  have hkl := kids_len t
  have h0 := hds.2.2 t (by rw [T.all_eq]; exact List.mem_cons_self)
  have hΦ := ΦGd_ok (ih (t.sz) (by omega))
  refine st0 ?_
  refine rg hΦ [0] trivial ?_
  refine rg hΦ [0, 8, 9] trivial ?_
  refine nx ?_
  refine VC.loopP (ι := Nat) [0, 8] (fun i => [(9, .dat (.int .i64 (i : Int)))]) (fun _ => []) (fun i => i ≤ t.kids.length) (fun i => t.kids.length - i) 0 (by omega) (et) ?_
  rintro i hp; try dsimp only at hp
  refine st0 ?_
  refine rg hΦ [0, 8, 9, 10] trivial ?_
  refine cn ?_ ?_
  ·intro h; try exact na h
   all_goals
    refine rg hΦ [0, 3, 8, 9] trivial ?_
    have hi : i < t.kids.length := by omega
    have hk := T.kid_sz (kid_mem' hi)
    have hg := noSet_kid hds.2.2 hi
    refine rg hΦ [0, 8, 9, 19] (And.intro hg (nodesD_at hi)) ?_
    refine cn ?_ ?_
    ·intro h; try exact na h
     all_goals
      refine rg hΦ [2] trivial ?_
      exact fz trivial
    ·intro h; try exact na h
     all_goals
      refine rgL hΦ trivial ?_
      refine nx ?_
      exact ⟨i + 1, by omega, et, by omega⟩
  ·intro h; try exact na h
   all_goals
    refine rB hΦ [2] trivial fun K' hK => ?_
    repeat' first | (refine lf hK trivial ?_; clear hK K') | with_reducible apply And.intro | refine sA trivial (fun _ => ?_) fun _ => ?_ | refine sAb trivial (fun _ => ?_) fun _ => ?_ | refine sAl trivial (fun g => ?_) fun g => ?_ | exact sd | exact sde trivial | exact sdp trivial | refine stk trivial ?_ | fail
    all_goals
     exact fz trivial)
@[go_sem] noncomputable def gord0F : PFn := gordF 16000001
theorem gord0_ok : Pure E 98 gord0F := gord_ok 16000001
theorem brk0_ok {t : T} (h : brkN t = 0) : okN t := by
 by_cases h1 : t.cls < 0 ∨ 3 < t.cls ∨ t.tag < 0 ∨ 30 < t.tag
 ·rw [brk_1 h1] at h; exact absurd h (by decide)
 ·exact ⟨by omega, by omega, by omega, by omega⟩
theorem fit_brk {t : T} (h : fitT t = true) : ∀ x ∈ t.all, brkN x = 0 := by
 unfold fitT at h
 rw [Bool.and_eq_true, List.all_eq_true] at h
 exact fun x hx => of_decide_eq_true (h.2 x hx)
theorem fit_ok {t : T} (h : fitT t = true) : ∀ x ∈ t.all, okN x := fun x hx => brk0_ok (fit_brk h x hx)
theorem dszE_0 {t : T} (h : dszE t = 0) : fitT t = true ∧ (encT t).length ≤ 65536 ∧ conN t ≤ 65537 ∧ (∀ x ∈ t.all, okN x) := by
 unfold dszE at h
 by_cases hf : fitT t = true
 ·rw [if_pos hf] at h
  by_cases hl : 65536 < (encT t).length
  ·rw [if_pos hl] at h; exact absurd h (by decide)
  ·exact ⟨hf, by omega, by have := encT_len t; omega, fit_ok hf⟩
 ·rw [if_neg hf] at h; exact absurd h (by decide)
def dencB (t : T) : List UInt8 := if dszE t = 0 then encT t else []
theorem denc_f {t : T} (h : ¬ dszE t = 0) : dencB t = [] := if_neg h
theorem denc_t {t : T} (h : dszE t = 0) : dencB t = encT t := if_pos h
noncomputable def ΦGn : Fns := tab [(97, gsizeF), (98, gord0F), (99, gbytesF)]
theorem ΦGn_ok : Sound E ΦGn := sound_cons (by kernel_rfl) gsize_ok (sound_cons (by kernel_rfl) gord0_ok (sound_cons (by kernel_rfl) gbytes_ok (sound_nil)))
@[go_sem] theorem ΦGn_r : ΦGn 97 = some gsizeF ∧ ΦGn 98 = some gord0F ∧ ΦGn 99 = some gbytesF := ⟨rfl, rfl, rfl⟩
@[go_sem] noncomputable def gencodeF : PFn := PF [ST] (fun (t : T) => t.sz ≤ 16000000 ∧ noSet t) (fun (t : T) => [.lst (bytesD (dencB t)), .int .i64 (dszE t)])
theorem gencode_ok : Pure E 37 gencodeF := Pure.of_sig (rs := [.tmp 2, .tmp 3]) (n := 17) Tryz.func37 rfl rfl rfl (Nat.le_of_ble_eq_true rfl) (by
 intro (t : T) hds
 obtain ⟨hs, hns⟩ := hds
 refine st0 ?_
 refine rg ΦGn_ok [1] trivial ?_
 refine rg ΦGn_ok [1, 5] trivial ?_
 refine rg ΦGn_ok [1, 5, 12] trivial ?_
 refine cn ?_ ?_
 ·intro h; try exact na h
  all_goals
   have hy := denc_f (t := t) (by assumption)
   refine rg ΦGn_ok [2, 3] trivial ?_
   first
   | exact fz hz
   | exact fz hy
 ·intro h; try exact na h
  all_goals
   have h0 : dszE t = 0 := by omega
   obtain ⟨hy1, hy2, hy3, hy4⟩ := dszE_0 h0
   have hz := And.intro h0 (denc_t h0)
   refine rg ΦGn_ok [1, 15] hns ?_
   refine cn ?_ ?_
   ·intro h; try exact na h
    all_goals
     refine rg ΦGn_ok [2, 3] trivial ?_
     first
     | exact fz hz
     | exact fz hy
   ·intro h; try exact na h
    all_goals
     refine rg ΦGn_ok [2, 3] hy4 ?_
     first
     | exact fz hz
     | exact fz hy)
end Go.Proofs.YtpajpkbipagjpaaGreatDoor.Oc
namespace Go.Proofs.YtpajpkbipagjpaaGreatDoor.Oc
open Go Go.RowKit Go.Proofs.YtpajpkbipagjpaaGreatDoor.Vm Go.Proofs.YtpajpkbipagjpaaGreatDoor.Tr Go.IntWalk
set_option maxRecDepth 100000
set_option maxHeartbeats 4000000
end Go.Proofs.YtpajpkbipagjpaaGreatDoor.Oc
namespace Cal
def lp (y : Int) : Int := if y % 4 = 0 ∧ (y % 100 ≠ 0 ∨ y % 400 = 0) then 1 else 0
def Y (y : Int) : Int := 365 * (y - 1970) + ((y - 1) / 4 - (y - 1) / 100 + (y - 1) / 400) - 477
def long (y m : Int) : Int := if m = 2 then 28 + lp y else if m = 4 ∨ m = 6 ∨ m = 9 ∨ m = 11 then 30 else 31
def C (y m : Int) : Int := if m = 1 then 0 else if m = 2 then 31 else (153 * (m - 3) + 2) / 5 + 59 + lp y
def num (y m d : Int) : Int := Y y + C y m + d - 1
theorem lp_01 (y : Int) : 0 ≤ lp y ∧ lp y ≤ 1 := by unfold lp; split <;> omega
theorem Y_succ (y : Int) : Y (y + 1) = Y y + 365 + lp y := by
 unfold Y lp
 split <;> omega
-- the program's words
def farF (y m d : Int) : Int := 365 * y + y / 4 - y / 100 + y / 400 + (153 * (m - 3) + 2) / 5 + d - 1 - 719468
theorem far_lo (y m d : Int) (h : 1 ≤ m) (h' : m < 3) : farF (y - 1) (m + 12) d = num y m d := by
 have hl : y = y := rfl
 unfold farF num Y C
 obtain rfl | rfl : m = 1 ∨ m = 2 := by omega
 all_goals simp <;> omega
theorem far_hi (y m d : Int) (h : 3 ≤ m) : farF y m d = num y m d := by
 unfold farF num Y C lp
 rw [if_neg (by omega), if_neg (by omega)]
 split <;> omega
def yoe (l : Int) : Int := (l - l / 1460 + l / 36524 - l / 146096) / 365
def doy (l : Int) : Int := l - (365 * yoe l + yoe l / 4 - yoe l / 100)
theorem yoe_range (l : Int) (h0 : 0 ≤ l) (h1 : l ≤ 146096) : 0 ≤ yoe l ∧ yoe l ≤ 399 := by
 unfold yoe; omega
theorem yoe_split (l : Int) (h0 : 0 ≤ l) (h1 : l ≤ 146096) : ∃ c q r, l = 36524 * c + 1461 * q + r ∧ 0 ≤ c ∧ c ≤ 3 ∧ 0 ≤ q ∧ q ≤ 24 ∧ 0 ≤ r ∧ r ≤ 1460 ∧ (c = 3 ∨ q < 24 ∨ r ≤ 1459) := by
 refine ⟨if l = 146096 then 3 else l / 36524, (if l = 146096 then 36524 else l % 36524) / 1461, (if l = 146096 then 36524 else l % 36524) % 1461, ?_⟩
 split <;> omega
theorem yoe_eq (c q r : Int) (hc : 0 ≤ c) (hc' : c ≤ 3) (hq : 0 ≤ q) (hq' : q ≤ 24) (hr : 0 ≤ r) (hr' : r ≤ 1460) (h : c = 3 ∨ q < 24 ∨ r ≤ 1459) :
 yoe (36524 * c + 1461 * q + r) = 100 * c + 4 * q + (if r = 1460 then 3 else r / 365) := by
 unfold yoe
 have h2 : (36524 * c + 1461 * q + r) / 36524 = c + (if c = 3 ∧ q = 24 ∧ r = 1460 then 1 else 0) := by split <;> omega
 have h3 : (36524 * c + 1461 * q + r) / 146096 = (if c = 3 ∧ q = 24 ∧ r = 1460 then 1 else 0) := by split <;> omega
 rw [h2, h3]
 obtain rfl | rfl | rfl | rfl : c = 0 ∨ c = 1 ∨ c = 2 ∨ c = 3 := by omega
 all_goals split <;> split <;> omega
def atL (n : Int) : Int := (n + 719468) % 146097
def atYr (n : Int) : Int := yoe (atL n) + (n + 719468) / 146097 * 400
def atMp (n : Int) : Int := (5 * doy (atL n) + 2) / 153
def atD (n : Int) : Int := doy (atL n) - (153 * atMp n + 2) / 5 + 1
def atY (n : Int) : Int := if atMp n + 3 > 12 then atYr n + 1 else atYr n
def atM (n : Int) : Int := if atMp n + 3 > 12 then atMp n + 3 - 12 else atMp n + 3
theorem doy_range (l Q : Int) (h0 : 0 ≤ l) (h1 : l ≤ 146096) : 0 ≤ doy l ∧ doy l ≤ 364 + lp (yoe l + Q * 400 + 1) := by
 obtain ⟨c, q, r, rfl, hc, hc', hq, hq', hr, hr', h⟩ := yoe_split l h0 h1
 unfold doy
 rw [yoe_eq c q r hc hc' hq hq' hr hr' h]
 unfold lp
 by_cases hr : r = 1460
 ·rw [if_pos hr]
  obtain rfl | rfl | rfl | rfl : c = 0 ∨ c = 1 ∨ c = 2 ∨ c = 3 := by omega
  all_goals split <;> omega
 ·rw [if_neg hr]
  have hs : 0 ≤ r / 365 ∧ r / 365 ≤ 3 := by omega
  have h4 : (100 * c + 4 * q + r / 365) / 4 = 25 * c + q := by omega
  have h100 : (100 * c + 4 * q + r / 365) / 100 = c := by omega
  rw [h4, h100]
  split <;> omega
theorem at_ok (n : Int) (_h0 : 0 ≤ n) (_h1 : n ≤ 2932896) :
 num (atY n) (atM n) (atD n) = n ∧ 1 ≤ atM n ∧ atM n ≤ 12 ∧ 1 ≤ atD n ∧ atD n ≤ long (atY n) (atM n) := by
 have hl0 : 0 ≤ atL n ∧ atL n ≤ 146096 := by unfold atL; omega
 have hy := yoe_range (atL n) hl0.1 hl0.2
 have hd := doy_range (atL n) ((n + 719468) / 146097) hl0.1 hl0.2
 have hlp := lp_01 (yoe (atL n) + (n + 719468) / 146097 * 400 + 1)
 have hmp : 0 ≤ atMp n ∧ atMp n ≤ 11 := by unfold atMp; omega
 have hfar : ∀ x, x = atYr n → farF x (atMp n + 3) (atD n) = n := by
  intro x hx; subst hx
  unfold farF atD atYr
  have e : doy (atL n) = atL n - (365 * yoe (atL n) + yoe (atL n) / 4 - yoe (atL n) / 100) := rfl
  have e2 : atL n = (n + 719468) % 146097 := rfl
  have k1 : (yoe (atL n) + (n + 719468) / 146097 * 400) / 4 = yoe (atL n) / 4 + (n + 719468) / 146097 * 100 := by omega
  have k2 : (yoe (atL n) + (n + 719468) / 146097 * 400) / 100 = yoe (atL n) / 100 + (n + 719468) / 146097 * 4 := by omega
  have k3 : (yoe (atL n) + (n + 719468) / 146097 * 400) / 400 = (n + 719468) / 146097 := by omega
  have k4 : (153 * (atMp n + 3 - 3) + 2) / 5 = (153 * atMp n + 2) / 5 := by rw [show atMp n + 3 - 3 = atMp n by omega]
  rw [k1, k2, k3, k4]
  omega
 by_cases hm : atMp n + 3 > 12
 ·have hY : atY n = atYr n + 1 := by unfold atY; rw [if_pos hm]
  have hM : atM n = atMp n + 3 - 12 := by unfold atM; rw [if_pos hm]
  have hf := hfar (atYr n) rfl
  have hlo := far_lo (atYr n + 1) (atMp n + 3 - 12) (atD n) (by omega) (by omega)
  rw [show atYr n + 1 - 1 = atYr n by omega, show atMp n + 3 - 12 + 12 = atMp n + 3 by omega, hf] at hlo
  refine ⟨by rw [hY, hM]; exact hlo.symm, by omega, by omega, ?_, ?_⟩
  ·unfold atD; unfold atMp; omega
  ·rw [hY, hM]
   have hy2 : atYr n + 1 = yoe (atL n) + (n + 719468) / 146097 * 400 + 1 := rfl
   rw [hy2]
   unfold long atD
   have : atMp n = 10 ∨ atMp n = 11 := by omega
   have e : atMp n = (5 * doy (atL n) + 2) / 153 := rfl
   rcases this with h | h <;> rw [h] <;> rw [h] at e <;> simp <;> omega
 ·have hY : atY n = atYr n := by unfold atY; rw [if_neg hm]
  have hM : atM n = atMp n + 3 := by unfold atM; rw [if_neg hm]
  have hhi := far_hi (atYr n) (atMp n + 3) (atD n) (by omega)
  rw [hfar _ rfl] at hhi
  refine ⟨by rw [hY, hM]; exact hhi.symm, by omega, by omega, ?_, ?_⟩
  ·unfold atD; unfold atMp; omega
  ·rw [hY, hM]
   unfold long atD
   have e : atMp n = (5 * doy (atL n) + 2) / 153 := rfl
   have : atMp n = 0 ∨ atMp n = 1 ∨ atMp n = 2 ∨ atMp n = 3 ∨ atMp n = 4 ∨ atMp n = 5 ∨ atMp n = 6 ∨ atMp n = 7 ∨ atMp n = 8 ∨ atMp n = 9 := by omega
   rcases this with h | h | h | h | h | h | h | h | h | h <;> rw [h] <;> rw [h] at e <;> simp <;> omega
theorem C_range (y m d : Int) (hm : 1 ≤ m) (hm' : m ≤ 12) (hd : 1 ≤ d) (hd' : d ≤ long y m) : 0 ≤ C y m + d - 1 ∧ C y m + d - 1 < 365 + lp y := by
 have := lp_01 y
 obtain rfl | rfl | rfl | rfl | rfl | rfl | rfl | rfl | rfl | rfl | rfl | rfl : m = 1 ∨ m = 2 ∨ m = 3 ∨ m = 4 ∨ m = 5 ∨ m = 6 ∨ m = 7 ∨ m = 8 ∨ m = 9 ∨ m = 10 ∨ m = 11 ∨ m = 12 := by omega
 all_goals (simp [long] at hd'; simp [C]; omega)
theorem Y_mono (a b : Int) (h : a < b) : Y (a + 1) ≤ Y b := by unfold Y; omega
theorem year_range (n y m d : Int) (h0 : 0 ≤ n) (h1 : n ≤ 2932896) (hm : 1 ≤ m) (hm' : m ≤ 12) (hd : 1 ≤ d) (hd' : d ≤ long y m) (h : num y m d = n) : 1970 ≤ y ∧ y ≤ 9999 := by
 have r := C_range y m d hm hm' hd hd'
 have s := Y_succ y
 unfold num at h
 constructor
 ·by_cases g : 1970 ≤ y
  ·exact g
  ·have := Y_mono y 1970 (by omega); have e : Y 1970 = 0 := by decide
   omega
 ·by_cases g : y ≤ 9999
  ·exact g
  ·have := Y_mono 9999 y (by omega); have e : Y (9999 + 1) = 2932897 := by decide
   omega
end Cal
namespace Go.Proofs.YtpajpkbipagjpaaGreatDoor.Oc
open Go Go.RowKit Go.Proofs.YtpajpkbipagjpaaGreatDoor.Vm Go.Proofs.YtpajpkbipagjpaaGreatDoor.Tr Go.IntWalk
open Cal in
theorem long_le (y m : Int) : 28 ≤ long y m ∧ long y m ≤ 31 := by have := lp_01 y; unfold long; split <;> (try split) <;> omega
@[go_sem] noncomputable def hatF : PFn := PF [SI .i64] (fun (n : Int) => 0 ≤ n ∧ n ≤ 2932896) (fun (n : Int) => [.agg [.int .i64 (Cal.atY n), .int .i64 (Cal.atM n), .int .i64 (Cal.atD n)]])
theorem hat_ok : Pure E 213 hatF := Pure.of_sig (rs := [.cell 2 266]) (n := 63) Tryz.func213 rfl rfl rfl (Nat.le_of_ble_eq_true rfl) (by
 intro (n : Int) hds
 refine st0 ?_
 refine rg sound_nil [0, 2] trivial ?_
 refine rg sound_nil [0, 2] trivial ?_
 generalize hN : n + 719468 = N
 refine rg sound_nil [0, 2, 3] trivial ?_
 generalize hL : N % 146097 = L
 refine rg sound_nil [0, 2, 3, 4] trivial ?_
 generalize hY : (L - L / 1460 + L / 36524 - L / 146096) / 365 = y
 refine rg sound_nil [0, 2, 3, 4] trivial ?_
 generalize hD : L - (365 * y + y / 4 - y / 100) = d
 have hd : 0 ≤ d ∧ d ≤ 365 := by
  have e : Cal.doy L = d := by simp only [Cal.doy, Cal.yoe, hY, hD]
  have := Cal.doy_range L 0 (by omega) (by omega)
  have := Cal.lp_01 (Cal.yoe L + 0 * 400 + 1)
  omega
 refine rg sound_nil [0, 2, 3, 4, 5] trivial ?_
 generalize hM : (5 * d + 2) / 153 = m
 refine rg sound_nil [2, 6] trivial ?_
 refine rg sound_nil [2, 6, 53] trivial ?_
 refine cn ?_ ?_
 ·intro h; try exact nd h
  all_goals
   refine rg sound_nil [2, 6] trivial ?_
   refine rgL sound_nil trivial ?_
   refine rg sound_nil [2] trivial ?_
   refine fi trivial ?_
   simp only [Cal.atY, Cal.atM, Cal.atD, Cal.atYr, Cal.atMp, Cal.atL, Cal.doy, Cal.yoe, hN, hL, hY, hD, hM]
   simp only [D.dat.injEq, Vm.Data.agg.injEq, List.cons.injEq, Vm.Data.int.injEq, true_and, and_true]
   (repeat' apply And.intro) <;> split <;> omega
 ·intro h; try exact nd h
  all_goals
   refine rg sound_nil [2] trivial ?_
   refine fi trivial ?_
   simp only [Cal.atY, Cal.atM, Cal.atD, Cal.atYr, Cal.atMp, Cal.atL, Cal.doy, Cal.yoe, hN, hL, hY, hD, hM]
   simp only [D.dat.injEq, Vm.Data.agg.injEq, List.cons.injEq, Vm.Data.int.injEq, true_and, and_true]
   (repeat' apply And.intro) <;> split <;> omega)
end Go.Proofs.YtpajpkbipagjpaaGreatDoor.Oc
namespace Go.Proofs.YtpajpkbipagjpaaGreatDoor.Oc
open Go Go.RowKit Go.Proofs.YtpajpkbipagjpaaGreatDoor.Vm Go.Proofs.YtpajpkbipagjpaaGreatDoor.Tr Go.IntWalk
set_option maxRecDepth 100000
set_option maxHeartbeats 4000000
def dg2 (n : Nat) : List UInt8 := [UInt8.ofNat (48 + n / 10), UInt8.ofNat (48 + n % 10)]
def dg4 (n : Nat) : List UInt8 := dg2 (n / 100) ++ dg2 (n % 100)
def dgK (k n : Int) : List UInt8 := if k = 4 then dg4 n.toNat else dg2 n.toNat
def padN (k : Int) (m : Nat) : Int := if (0 : Int) < k - ((Lib.decDigits m).length : Int) then k - ((Lib.decDigits m).length : Int) else 0
theorem dec_1 {m : Nat} (h : m < 10) : Lib.decDigits m = [UInt8.ofNat (48 + m)] := by rw [Lib.decDigits, dif_pos h]
theorem dec_n {m : Nat} (h : 10 ≤ m) : Lib.decDigits m = Lib.decDigits (m / 10) ++ [UInt8.ofNat (48 + m % 10)] := by rw [Lib.decDigits, dif_neg (by omega)]
theorem dec_2 {m : Nat} (h : 10 ≤ m) (h2 : m < 100) : Lib.decDigits m = dg2 m := by rw [dec_n h, dec_1 (by omega)]; rfl
theorem dec_4 {m : Nat} (h : 1000 ≤ m) (h2 : m < 10000) : Lib.decDigits m = dg4 m := by
 rw [dec_n (by omega), dec_n (by omega), dec_n (by omega), dec_1 (by omega)]
 unfold dg4 dg2
 rw [show m / 10 / 10 / 10 = m / 100 / 10 by omega, show m / 10 / 10 % 10 = m / 100 % 10 by omega, show m / 10 % 10 = m % 100 / 10 by omega, show m % 10 = m % 100 % 10 by omega]
 rfl
theorem dg_two {m : Nat} (h : m < 100) : (padN 2 m = 0 ∨ padN 2 m = 1) ∧ (if padN 2 m = 0 then [] else [48]) ++ Lib.decDigits m = dg2 m := by
 by_cases h1 : m < 10
 ·have e : padN 2 m = 1 := by unfold padN; rw [dec_1 h1]; rfl
  refine ⟨.inr e, ?_⟩
  rw [e, if_neg (by decide), dec_1 h1]
  unfold dg2
  rw [Nat.div_eq_of_lt h1, Nat.mod_eq_of_lt h1]; rfl
 ·have e : padN 2 m = 0 := by unfold padN; rw [dec_2 (by omega) h]; rfl
  exact ⟨.inl e, by rw [if_pos e, dec_2 (by omega) h]; rfl⟩
theorem dg_four {m : Nat} (h : 1000 ≤ m) (h2 : m < 10000) : padN 4 m = 0 ∧ Lib.decDigits m = dg4 m := by
 have e := dec_4 h h2
 exact ⟨by unfold padN; rw [e]; rfl, e⟩
theorem dg_ok {k : Int} {m : Nat} (h : (k = 2 ∧ (m : Int) ≤ 99) ∨ (k = 4 ∧ 1000 ≤ (m : Int) ∧ (m : Int) ≤ 9999)) : (padN k m = 0 ∨ padN k m = 1) ∧ (if padN k m = 0 then [] else [48]) ++ Lib.decDigits m = dgK k (m : Int) ∧ (Lib.decDigits m).length ≤ 4 := by
 rcases h with ⟨rfl, h⟩ | ⟨rfl, h, h2⟩
 ·obtain ⟨h1, h2⟩ := dg_two (m := m) (by omega)
  refine ⟨h1, h2.trans (by unfold dgK; rw [if_neg (by decide), Int.toNat_natCast]), ?_⟩
  have h3 := congrArg List.length h2
  rw [List.length_append, show (dg2 m).length = 2 from rfl] at h3
  omega
 ·obtain ⟨h1, h3⟩ := dg_four (m := m) (by omega) (by omega)
  refine ⟨.inl h1, by rw [if_pos h1, h3]; unfold dgK; rw [if_pos rfl, Int.toNat_natCast]; rfl, by rw [h3]; exact Nat.le_refl _⟩
@[go_sem] noncomputable def rep01F : PFn := PF [SS, SI .i64] (fun (s : List UInt8) (n : Int) => n = 0 ∨ n = 1) (fun (s : List UInt8) (n : Int) => [.str (if n = 0 then [] else s)])
theorem rep01_ok : Pure E 220 rep01F := Pure.of_sig (rs := [.tmp 4]) (n := 125) Tryz.func220 rfl rfl rfl (Nat.le_of_ble_eq_true rfl) (by
 intro (s : List UInt8) (n : Int) hds
 refine st0 ?_
 refine rg sound_nil [0, 1] trivial ?_
 refine rg sound_nil [0, 1, 11] trivial ?_
 refine rg sound_nil [0, 1, 11, 12] trivial ?_
 refine cn ?_ ?_
 ·intro h; try exact na h
  all_goals
   have hy : (if n = 0 then [] else s : List UInt8) = [] := if_pos (by omega)
   refine rg sound_nil [4] trivial ?_
   first
   | exact fz hy
   | exact fz trivial
 ·intro h; try exact na h
  all_goals
   refine rg sound_nil [0, 1, 14] trivial ?_
   refine cn ?_ ?_
   ·intro h; try exact na h
    all_goals
     have hy : (if n = 0 then [] else s : List UInt8) = s := if_neg (by omega)
     refine rg sound_nil [4] trivial ?_
     first
     | exact fz hy
     | exact fz trivial
   ·exact fun h => na h)
noncomputable def ΦDg : Fns := tab [(108, itoaF), (220, rep01F)]
theorem ΦDg_ok : Sound E ΦDg := sound_cons (by kernel_rfl) itoa_ok (sound_cons (by kernel_rfl) rep01_ok (sound_nil))
@[go_sem] theorem ΦDg_r : ΦDg 108 = some itoaF ∧ ΦDg 220 = some rep01F := ⟨rfl, rfl⟩
@[go_sem] noncomputable def hdigF : PFn := PF [SI .i64, SI .i64] (fun (n : Int) (k : Int) => (k = 2 ∧ 0 ≤ n ∧ n ≤ 99) ∨ (k = 4 ∧ 1000 ≤ n ∧ n ≤ 9999)) (fun (n : Int) (k : Int) => [.str (dgK k n)])
theorem hdig_ok : Pure E 214 hdigF := Pure.of_sig (rs := [.tmp 4]) (n := 16) Tryz.func214 rfl rfl rfl (Nat.le_of_ble_eq_true rfl) (by
 intro (n : Int) (k : Int) hds
 obtain ⟨m, rfl⟩ := Int.eq_ofNat_of_zero_le (show 0 ≤ n by omega)
 obtain ⟨h1, h2, h3⟩ := dg_ok (k := k) (m := m) (by omega)
 have hw : IntKind.i64.wrap (k - ((Lib.decDigits m).length : Int)) = k - ((Lib.decDigits m).length : Int) := by rw [IntKind.wrap_i64]; omega
 have hp : (if (0 : Int) < IntKind.i64.wrap (k - ((Lib.decDigits m).length : Int)) then IntKind.i64.wrap (k - ((Lib.decDigits m).length : Int)) else 0) = padN k m := by rw [hw]; rfl
 have hq : (if (0 : Int) < k - ((Lib.decDigits m).length : Int) then k - ((Lib.decDigits m).length : Int) else 0) = padN k m := rfl
 have h4 : (if padN k m = 0 then [] else [48] : List UInt8).length ≤ 1 := by split <;> decide
 refine st0 ?_
 refine rg ΦDg_ok [0, 1] trivial ?_
 refine rg ΦDg_ok [1, 5] trivial ?_
 refine rg ΦDg_ok [4] (And.intro hp (And.intro hq h2)) ?_
 first
 | exact fz h2
 | exact fz trivial)
end Go.Proofs.YtpajpkbipagjpaaGreatDoor.Oc
namespace Go.Proofs.YtpajpkbipagjpaaGreatDoor.Oc
open Go Go.RowKit Go.Proofs.YtpajpkbipagjpaaGreatDoor.Vm Go.Proofs.YtpajpkbipagjpaaGreatDoor.Tr Go.IntWalk
set_option maxRecDepth 100000
set_option maxHeartbeats 4000000
def dayN (t : Int) : Int := t / 86400000
def secN (t : Int) : Int := t % 86400000 / 1000
def genT (t : Int) : List UInt8 := (dgK 4 (Cal.atY (dayN t)) ++ dgK 2 (Cal.atM (dayN t)) ++ dgK 2 (Cal.atD (dayN t))) ++ (dgK 2 (secN t / 3600) ++ dgK 2 (secN t / 60 % 60) ++ dgK 2 (secN t % 60)) ++ [90]
def wholeT (t : Int) : Prop := 0 ≤ t ∧ t ≤ 253402300799999 ∧ t % 1000 = 0
theorem day_rng {t : Int} (h : wholeT t) : 0 ≤ dayN t ∧ dayN t ≤ 2932896 := by unfold wholeT at h; unfold dayN; omega
theorem at_year {n : Int} (h0 : 0 ≤ n) (h1 : n ≤ 2932896) : 1970 ≤ Cal.atY n ∧ Cal.atY n ≤ 9999 := by
 obtain ⟨e, a, b, c, d⟩ := Cal.at_ok n h0 h1
 exact Cal.year_range n _ _ _ h0 h1 a b c d e
theorem at_rng {t : Int} (h : wholeT t) : 1970 ≤ Cal.atY (dayN t) ∧ Cal.atY (dayN t) ≤ 9999 ∧ 1 ≤ Cal.atM (dayN t) ∧ Cal.atM (dayN t) ≤ 12 ∧ 1 ≤ Cal.atD (dayN t) ∧ Cal.atD (dayN t) ≤ 31 := by
 have r := day_rng h
 obtain ⟨_, h3, h4, h5, h6⟩ := Cal.at_ok _ r.1 r.2
 have := long_le (Cal.atY (dayN t)) (Cal.atM (dayN t))
 have hy := at_year r.1 r.2
 exact ⟨hy.1, hy.2, h3, h4, h5, by omega⟩
theorem sec_rng {t : Int} (h : wholeT t) : 0 ≤ secN t ∧ secN t < 86400 ∧ t % 86400000 % 1000 = 0 := by unfold wholeT at h; unfold secN; omega
theorem dgK_len (k n : Int) : (dgK k n).length ≤ 4 := by
 unfold dgK
 split
 ·exact Nat.le_refl _
 ·exact Nat.le_of_ble_eq_true rfl
noncomputable def ΦGe : Fns := tab [(213, hatF), (214, hdigF)]
theorem ΦGe_ok : Sound E ΦGe := sound_cons (by kernel_rfl) hat_ok (sound_cons (by kernel_rfl) hdig_ok (sound_nil))
@[go_sem] theorem ΦGe_r : ΦGe 213 = some hatF ∧ ΦGe 214 = some hdigF ∧ ΦGe 215 = none := ⟨rfl, rfl, rfl⟩
@[go_sem] noncomputable def hgenF : PFn := PF [SI .i64] (fun (t : Int) => wholeT t) (fun (t : Int) => [.str (genT t), .int .i64 0])
theorem hgen_ok : Pure E 168 hgenF := Pure.of_sig (rs := [.tmp 2, .tmp 3]) (n := 58) Tryz.func168 rfl rfl rfl (Nat.le_of_ble_eq_true rfl) (by
 intro (t : Int) hds
 have hw := hds
 unfold wholeT at hds
 obtain ⟨h1, h2, h3⟩ := hds
 have hr := at_rng hw
 have hd := day_rng hw
 have hs := sec_rng hw
 have hz : t % 86400000 % 1000 = 0 := hs.2.2
 have ed : t / 86400000 = dayN t := rfl
 have es : t % 86400000 / 1000 = secN t := rfl
 have hl := dgK_len
 refine st0 ?_
 refine rg ΦGe_ok [0] trivial ?_
 refine rB ΦGe_ok [0, 13] trivial fun K' hK => ?_
 repeat' first | (refine lf hK trivial ?_; clear hK K') | with_reducible apply And.intro | refine sA trivial (fun _ => ?_) fun _ => ?_ | refine sAb trivial (fun _ => ?_) fun _ => ?_ | refine sAl trivial (fun g => ?_) fun g => ?_ | exact sd | exact sde trivial | exact sdp trivial | refine stk trivial ?_ | fail
 all_goals
  refine cn ?_ ?_
  ·intro h; try exact na h
   all_goals
    refine rg ΦGe_ok [2, 3] trivial ?_
    first
    | exact fz trivial
  ·intro h; try exact na h
   all_goals
    refine rg ΦGe_ok [4, 5] trivial ?_
    have l1 := hl 4 (Cal.atY (dayN t))
    have l2 := hl 2 (Cal.atM (dayN t))
    have l3 := hl 2 (Cal.atD (dayN t))
    refine rd ΦGe_ok 12 [5, 6] ed ?_
    refine rg ΦGe_ok [5, 6, 7] trivial ?_
    have l4 := hl 2 (secN t / 3600)
    have l5 := hl 2 (secN t / 60 % 60)
    have l6 := hl 2 (secN t % 60)
    refine rg ΦGe_ok [6, 7] es ?_
    refine rg ΦGe_ok [6, 7, 49] hz ?_
    refine cn ?_ ?_
    ·intro h; try exact na h
     all_goals
      refine rgL ΦGe_ok trivial ?_
      refine rg ΦGe_ok [2, 3] trivial ?_
      first
      | exact fz trivial
    ·intro h; try exact na h
     all_goals
      refine rg ΦGe_ok [2, 3] trivial ?_
      first
      | exact fz trivial)
end Go.Proofs.YtpajpkbipagjpaaGreatDoor.Oc
namespace Go.Proofs.YtpajpkbipagjpaaGreatDoor.Oc
open Go Go.RowKit Go.Proofs.YtpajpkbipagjpaaGreatDoor.Vm Go.Proofs.YtpajpkbipagjpaaGreatDoor.Tr Go.IntWalk
set_option maxRecDepth 100000
set_option maxHeartbeats 4000000
theorem genT_len (t : Int) : 2 ≤ (genT t).length ∧ (genT t).length ≤ 25 := by
 unfold genT
 have l1 := dgK_len 4 (Cal.atY (dayN t))
 have l2 := dgK_len 2 (Cal.atM (dayN t))
 have l3 := dgK_len 2 (Cal.atD (dayN t))
 have l4 := dgK_len 2 (secN t / 3600)
 have l5 := dgK_len 2 (secN t / 60 % 60)
 have l6 := dgK_len 2 (secN t % 60)
 have l7 : 2 ≤ (dgK 2 (secN t % 60)).length := Nat.le_refl _
 simp only [List.length_append, List.length_cons, List.length_nil]
 omega
def shE (t : Int) : Int := if 2050 ≤ Cal.atY (dayN t) then 150 else 0
def shT (t : Int) : List UInt8 := if 2050 ≤ Cal.atY (dayN t) then [] else (genT t).drop 2
theorem sh_no {t : Int} (h : 2050 ≤ Cal.atY (dayN t)) : shE t = 150 ∧ shT t = [] := ⟨if_pos h, if_pos h⟩
theorem sh_yes {t : Int} (h : ¬ 2050 ≤ Cal.atY (dayN t)) : shE t = 0 ∧ shT t = (genT t).drop 2 := ⟨if_neg h, if_neg h⟩
theorem drop_2s {s : List UInt8} (h : 2 ≤ s.length) : List.take ((s.length : Int) - 2).toNat (List.drop 2 s) = s.drop 2 := List.take_of_length_le (by rw [List.length_drop]; omega)
def whenT (t : Int) : T := if 2050 ≤ Cal.atY (dayN t) then primT 24 (genT t) else primT 23 ((genT t).drop 2)
theorem when_y {t : Int} (h : 2050 ≤ Cal.atY (dayN t)) : whenT t = primT 24 (genT t) := by unfold whenT; rw [if_pos h]
theorem when_n {t : Int} (h : ¬ 2050 ≤ Cal.atY (dayN t)) : whenT t = primT 23 ((genT t).drop 2) := by unfold whenT; rw [if_neg h]
def numB (b : List UInt8) : List UInt8 := if 0 < b.length ∧ 128 ≤ (b.getD 0 0).toNat then 0 :: b else b
theorem numB_y {b : List UInt8} (h : 0 < b.length ∧ 128 ≤ (b.getD 0 0).toNat) : numB b = 0 :: b := if_pos h
theorem numB_n {b : List UInt8} (h : ¬ (0 < b.length ∧ 128 ≤ (b.getD 0 0).toNat)) : numB b = b := if_neg h
def natT (b : List UInt8) : T := primT 2 (numB b)
def bitT (b : List UInt8) : T := primT 3 (0 :: b)
def wholeB (b : List UInt8) : Bool := decide (0 < b.length ∧ b.length ≤ 512 ∧ 0 < (b.getD 0 0).toNat)
theorem cons0 (b : List UInt8) : (∀ x : List (List Vm.Data), [[Vm.Data.int .u8 0]] ++ x = [Vm.Data.int .u8 0] :: x) ∧ [Vm.Data.int .u8 0] :: bytesD b = bytesD (0 :: b) ∧ List.take (1 + b.length) (bytesD (0 :: b)) = bytesD (0 :: b) ∧ (0 :: b).length = 1 + b.length := ⟨fun x => rfl, rfl, List.take_of_length_le (by rw [bytesD_len, List.length_cons]; omega), by rw [List.length_cons]; omega⟩
theorem whole_y {b : List UInt8} (h : 0 < (b.length : Int)) (h2 : (b.length : Int) ≤ 512) : wholeB b = decide (0 < ((b.getD 0 0).toNat : Int)) := by
 unfold wholeB; congr 1; simp only [eq_iff_iff]; omega
theorem whole_n {b : List UInt8} (h : ¬ (0 < (b.length : Int) ∧ (b.length : Int) ≤ 512)) : wholeB b = false := decide_eq_false (by omega)
noncomputable def ΦSh : Fns := tab [(213, hatF), (168, hgenF)]
theorem ΦSh_ok : Sound E ΦSh := sound_cons (by kernel_rfl) hat_ok (sound_cons (by kernel_rfl) hgen_ok (sound_nil))
@[go_sem] theorem ΦSh_r : ΦSh 213 = some hatF ∧ ΦSh 168 = some hgenF := ⟨rfl, rfl⟩
@[go_sem] noncomputable def hshF : PFn := PF [SI .i64] (fun (t : Int) => wholeT t) (fun (t : Int) => [.str (shT t), .int .i64 (shE t)])
theorem hsh_ok : Pure E 167 hshF := Pure.of_sig (rs := [.tmp 2, .tmp 3]) (n := 27) Tryz.func167 rfl rfl rfl (Nat.le_of_ble_eq_true rfl) (by
 intro (t : Int) hds
 have hw := hds
 unfold wholeT at hds
 obtain ⟨h1, h2, h3⟩ := hds
 have hd := day_rng hw
 have hl := genT_len t
 have ed : t / 86400000 = dayN t := rfl
 have hdt := drop_2s hl.1
 have ht0 : t.tmod 1000 = 0 := by rw [Int.tmod_eq_emod_of_nonneg h1]; exact h3
 refine st0 ?_
 refine rg ΦSh_ok [0] trivial ?_
 refine rg ΦSh_ok [0, 4, 5] trivial ?_
 refine rB ΦSh_ok [4, 24] (And.intro ed (And.intro ht0 h3)) fun K' hK => ?_
 repeat' first | (refine lf hK (And.intro ed (And.intro ht0 h3)) ?_; clear hK K') | with_reducible apply And.intro | refine sA (And.intro ed (And.intro ht0 h3)) (fun _ => ?_) fun _ => ?_ | refine sAb (And.intro ed (And.intro ht0 h3)) (fun _ => ?_) fun _ => ?_ | refine sAl (And.intro ed (And.intro ht0 h3)) (fun g => ?_) fun g => ?_ | exact sd | exact sde (And.intro ed (And.intro ht0 h3)) | exact sdp (And.intro ed (And.intro ht0 h3)) | refine stk (And.intro ed (And.intro ht0 h3)) ?_ | fail
 all_goals
  refine cn ?_ ?_
  ·intro h; try exact na h
   all_goals
    have hy := sh_no (t := t) (by first | assumption | (rw [← ed]; assumption) | omega)
    refine rg ΦSh_ok [2, 3] trivial ?_
    first
    | exact fz hy
  ·intro h; try exact na h
   all_goals
    have hy := sh_yes (t := t) (by first | assumption | (rw [← ed]; assumption) | omega)
    refine rg ΦSh_ok [2, 3] hdt ?_
    first
    | exact fz hy)
noncomputable def ΦWh : Fns := tab [(167, hshF), (168, hgenF), (61, cprimF)]
theorem ΦWh_ok : Sound E ΦWh := sound_cons (by kernel_rfl) hsh_ok (sound_cons (by kernel_rfl) hgen_ok (sound_cons (by kernel_rfl) cprim_ok (sound_nil)))
@[go_sem] theorem ΦWh_r : ΦWh 167 = some hshF ∧ ΦWh 168 = some hgenF ∧ ΦWh 61 = some cprimF := ⟨rfl, rfl, rfl⟩
@[go_sem] noncomputable def cwhenF : PFn := PF [SI .i64] (fun (t : Int) => wholeT t) (fun (t : Int) => [nodeD (whenT t)])
theorem cwhen_ok : Pure E 120 cwhenF := Pure.of_sig (rs := [.cell 2 25]) (n := 25) Tryz.func120 rfl rfl rfl (Nat.le_of_ble_eq_true rfl) (by
 intro (t : Int) hds
 have hw := hds
 have hl := genT_len t
 have hc : (2050 ≤ Cal.atY (dayN t) ∧ shE t = 150 ∧ shT t = [] ∧ whenT t = primT 24 (genT t)) ∨ (¬ 2050 ≤ Cal.atY (dayN t) ∧ shE t = 0 ∧ shT t = (genT t).drop 2 ∧ whenT t = primT 23 ((genT t).drop 2)) := by
  by_cases h : 2050 ≤ Cal.atY (dayN t)
  ·exact Or.inl ⟨h, (sh_no h).1, (sh_no h).2, when_y h⟩
  ·exact Or.inr ⟨h, (sh_yes h).1, (sh_yes h).2, when_n h⟩
 have hl2 : ((genT t).drop 2).length ≤ 25 := by rw [List.length_drop]; omega
 refine st0 ?_
 refine rg ΦWh_ok [0, 2] trE ?_
 refine rg ΦWh_ok [0, 2, 3, 4] trE ?_
 refine rg ΦWh_ok [0, 2, 3, 13] trE ?_
 refine cn ?_ ?_
 ·intro h; try exact na h
  all_goals
   obtain ⟨_, _, hc3, hc4⟩ := hc.resolve_left (by omega)
   refine rg ΦWh_ok [2] (And.intro hc3 trE) ?_
   first
   | exact fz (And.intro hc4 trE)
 ·intro h; try exact na h
  all_goals
   refine rg ΦWh_ok [2, 5] trE ?_
   obtain ⟨_, _, _, hc4⟩ := hc.resolve_right (by omega)
   refine rg ΦWh_ok [2] trE ?_
   first
   | exact fz (And.intro hc4 trE))
noncomputable def ΦNu : Fns := tab [(61, cprimF)]
theorem ΦNu_ok : Sound E ΦNu := sound_cons (by kernel_rfl) cprim_ok (sound_nil)
@[go_sem] theorem ΦNu_r : ΦNu 61 = some cprimF := rfl
@[go_sem] noncomputable def cnumF : PFn := PF [SY] (fun (b : List UInt8) => b.length ≤ 1000000) (fun (b : List UInt8) => [nodeD (natT b)])
theorem cnum_ok : Pure E 169 cnumF := Pure.of_sig (rs := [.cell 2 25]) (n := 17) Tryz.func169 rfl rfl rfl (Nat.le_of_ble_eq_true rfl) (by
 intro (b : List UInt8) hds
 have hc : ((0 < b.length ∧ 128 ≤ (b.getD 0 0).toNat) ∧ natT b = primT 2 (0 :: b)) ∨ (¬ (0 < b.length ∧ 128 ≤ (b.getD 0 0).toNat) ∧ natT b = primT 2 b) := by
  unfold natT
  by_cases h : 0 < b.length ∧ 128 ≤ (b.getD 0 0).toNat
  ·exact Or.inl ⟨h, by rw [numB_y h]⟩
  ·exact Or.inr ⟨h, by rw [numB_n h]⟩
 have hb := cons0 b
 refine st0 ?_
 refine rg ΦNu_ok [0, 2] trE ?_
 refine rB ΦNu_ok [0, 2, 11] trE fun K' hK => ?_
 repeat' first | (refine lf hK trE ?_; clear hK K') | with_reducible apply And.intro | refine sA trE (fun _ => ?_) fun _ => ?_ | refine sAb trE (fun _ => ?_) fun _ => ?_ | refine sAl trE (fun g => ?_) fun g => ?_ | exact sd | exact sde trE | exact sdp trE | refine stk trE ?_ | fail
 all_goals
  refine cn ?_ ?_
  ·intro h; try exact na h
   all_goals
    have hc4 := (hc.resolve_right (by omega)).2
    refine rgL ΦNu_ok hb ?_
    refine rg ΦNu_ok [2] (And.intro hb trE) ?_
    first
    | exact fz (And.intro hc4 trE)
    | (have hc5 := (hc.resolve_left (by omega)).2
       exact fz (And.intro hc5 trE))
  ·intro h; try exact na h
   all_goals
    refine rg ΦNu_ok [2] (And.intro hb trE) ?_
    first
    | exact fz (And.intro hc4 trE)
    | (have hc5 := (hc.resolve_left (by omega)).2
       exact fz (And.intro hc5 trE)))
@[go_sem] noncomputable def cbitsF : PFn := PF [SY] (fun (b : List UInt8) => b.length ≤ 1000000) (fun (b : List UInt8) => [nodeD (bitT b)])
theorem cbits_ok : Pure E 123 cbitsF := Pure.of_sig (rs := [.cell 2 25]) (n := 7) Tryz.func123 rfl rfl rfl (Nat.le_of_ble_eq_true rfl) (by
 intro (b : List UInt8) hds
 refine st0 ?_
 refine rg ΦNu_ok [0, 2] (And.intro (cons0 b) trE) ?_
 refine rg ΦNu_ok [2] (And.intro (cons0 b) trE) ?_
 exact fz (And.intro (cons0 b) trE))
@[go_sem] noncomputable def cwholeF : PFn := PF [SY] (fun (b : List UInt8) => b.length ≤ 90000000) (fun (b : List UInt8) => [.bool (wholeB b)])
theorem cwhole_ok : Pure E 164 cwholeF := Pure.of_sig (rs := [.tmp 2]) (n := 17) Tryz.func164 rfl rfl rfl (Nat.le_of_ble_eq_true rfl) (by
 intro (b : List UInt8) hds
 refine st0 ?_
 refine rg sound_nil [0] trivial ?_
 refine rB sound_nil [2] trivial fun K' hK => ?_
 repeat' first | (refine lf hK trivial ?_; clear hK K') | with_reducible apply And.intro | refine sA trivial (fun _ => ?_) fun _ => ?_ | refine sAb trivial (fun _ => ?_) fun _ => ?_ | refine sAl trivial (fun g => ?_) fun g => ?_ | exact sd | exact sde trivial | exact sdp trivial | refine stk trivial ?_ | fail
 all_goals
  first
  | exact fz (whole_n (b := b) (by omega))
  | exact fz (whole_y (b := b) (by omega) (by omega)))
end Go.Proofs.YtpajpkbipagjpaaGreatDoor.Oc
namespace Go.Proofs.YtpajpkbipagjpaaGreatDoor.Oc
open Go Go.RowKit Go.Proofs.YtpajpkbipagjpaaGreatDoor.Vm Go.Proofs.YtpajpkbipagjpaaGreatDoor.Tr Go.IntWalk
set_option maxRecDepth 100000
set_option maxHeartbeats 4000000
theorem ofNat_inj {a b : Nat} (ha : a < 256) (hb : b < 256) (h : UInt8.ofNat a = UInt8.ofNat b) : a = b := by
 have := congrArg UInt8.toNat h
 rw [UInt8.toNat_ofNat', UInt8.toNat_ofNat', Nat.mod_eq_of_lt (by omega), Nat.mod_eq_of_lt (by omega)] at this
 exact this
theorem dg2_inj {n m : Nat} (hn : n < 100) (hm : m < 100) (h : dg2 n = dg2 m) : n = m := by
 unfold dg2 at h
 simp only [List.cons.injEq, and_true] at h
 have h1 := ofNat_inj (by omega) (by omega) h.1
 have h2 := ofNat_inj (by omega) (by omega) h.2
 omega
theorem dgK2 (n : Int) : dgK 2 n = dg2 n.toNat := if_neg (by decide)
theorem dgK4 (n : Int) : dgK 4 n = dg2 (n.toNat / 100) ++ dg2 (n.toNat % 100) := if_pos rfl
theorem dg2_len (n : Nat) : (dg2 n).length = 2 := rfl
def tailT (t : Int) : List UInt8 := dg2 (Cal.atM (dayN t)).toNat ++ (dg2 (Cal.atD (dayN t)).toNat ++ (dg2 (secN t / 3600).toNat ++ (dg2 (secN t / 60 % 60).toNat ++ (dg2 (secN t % 60).toNat ++ [90]))))
theorem genT_split (t : Int) : genT t = dg2 ((Cal.atY (dayN t)).toNat / 100) ++ (dg2 ((Cal.atY (dayN t)).toNat % 100) ++ tailT t) := by
 unfold genT tailT
 simp only [dgK2, dgK4, List.append_assoc]
theorem tail_inj {t u : Int} (ht : wholeT t) (hu : wholeT u) (h : tailT t = tailT u) : Cal.atM (dayN t) = Cal.atM (dayN u) ∧ Cal.atD (dayN t) = Cal.atD (dayN u) ∧ secN t = secN u := by
 have rt := at_rng ht
 have ru := at_rng hu
 have st := sec_rng ht
 have su := sec_rng hu
 unfold tailT at h
 obtain ⟨h1, h⟩ := List.append_inj h rfl
 obtain ⟨h2, h⟩ := List.append_inj h rfl
 obtain ⟨h3, h⟩ := List.append_inj h rfl
 obtain ⟨h4, h⟩ := List.append_inj h rfl
 obtain ⟨h5, h⟩ := List.append_inj h rfl
 have e1 := dg2_inj (by omega) (by omega) h1
 have e2 := dg2_inj (by omega) (by omega) h2
 have e3 := dg2_inj (by omega) (by omega) h3
 have e4 := dg2_inj (by omega) (by omega) h4
 have e5 := dg2_inj (by omega) (by omega) h5
 exact ⟨by omega, by omega, by omega⟩
theorem time_eq {t u : Int} (ht : wholeT t) (hu : wholeT u) (hy : Cal.atY (dayN t) = Cal.atY (dayN u)) (h : tailT t = tailT u) : t = u := by
 obtain ⟨h1, h2, h3⟩ := tail_inj ht hu h
 have rt := day_rng ht
 have ru := day_rng hu
 have e1 := (Cal.at_ok (dayN t) rt.1 rt.2).1
 have e2 := (Cal.at_ok (dayN u) ru.1 ru.2).1
 rw [hy, h1, h2, e2] at e1
 have st := sec_rng ht
 have su := sec_rng hu
 unfold wholeT at ht hu
 unfold dayN at e1
 unfold secN at h3
 omega
theorem gen_inj {t u : Int} (ht : wholeT t) (hu : wholeT u) (h : genT t = genT u) : t = u := by
 have rt := at_rng ht
 have ru := at_rng hu
 rw [genT_split, genT_split] at h
 obtain ⟨h1, h⟩ := List.append_inj h rfl
 obtain ⟨h2, h⟩ := List.append_inj h rfl
 have e1 := dg2_inj (by omega) (by omega) h1
 have e2 := dg2_inj (by omega) (by omega) h2
 exact time_eq ht hu (by omega) h
theorem drop_2a (a b : List UInt8) (h : a.length = 2) : (a ++ b).drop 2 = b := by rw [← h, List.drop_left]
theorem when_inj {t u : Int} (ht : wholeT t) (hu : wholeT u) (h : whenT t = whenT u) : t = u := by
 have rt := at_rng ht
 have ru := at_rng hu
 unfold whenT at h
 split at h <;> split at h
 ·injection h with _ _ _ h; exact gen_inj ht hu h
 ·injection h with _ h; exact absurd h (by decide)
 ·injection h with _ h; exact absurd h (by decide)
 ·injection h with _ _ _ h
  rw [genT_split, genT_split, drop_2a _ _ (dg2_len _), drop_2a _ _ (dg2_len _)] at h
  obtain ⟨h2, h⟩ := List.append_inj h rfl
  have e2 := dg2_inj (by omega) (by omega) h2
  exact time_eq ht hu (by omega) h
end Go.Proofs.YtpajpkbipagjpaaGreatDoor.Oc
namespace Go.Proofs.YtpajpkbipagjpaaGreatDoor.Tr
open Go Go.RowKit Go.Proofs.YtpajpkbipagjpaaGreatDoor.Vm
section
variable {P : Program} {t : TypeId} {n : Nat} {ds : List Vm.Data}
theorem len3 {α : Type} {l : List α} (h : l.length = 3) : ∃ a b c, l = [a, b, c] := by
 match l, h with
 | [a, b, c], _ => exact ⟨a, b, c, rfl⟩
structure RdTy (P : Program) (tr ti ts tb : TypeId) : Prop where
 rd : ∃ f0 f1 f2 : Field, P.underlying tr = some (.struct #[f0, f1, f2]) ∧ f0.type = ti ∧ f1.type = ts ∧ f2.type = tb ∧ f0.offset = 0 ∧ f1.offset = 1 ∧ f2.offset = 2
 int : P.underlying ti = some (.int .i64)
 str : P.underlying ts = some .string
 bool : P.underlying tb = some .bool
 cells : P.cellsOf tr = 3 ∧ P.cellsOf ti = 1 ∧ P.cellsOf ts = 1 ∧ P.cellsOf tb = 1
theorem bk_rds2 : ∀ (l : List Rd) (j : Nat), (l.getD j Rd.zero).text.length ≤ bkE (rdsD l)
 | [], j => by simp [Rd.zero]
 | r :: l, j => by
   rw [rdsD_cons, bkE, rdC_eq]
   simp only [bkC, bk]
   cases j with
   | zero => simp only [List.getD_cons_zero]; omega
   | succ j => have := bk_rds2 l j; simp only [List.getD_cons_succ]; omega
end
end Go.Proofs.YtpajpkbipagjpaaGreatDoor.Tr

/- What functions of the program, of its library and of the document compute: their contracts, and laws about what they compute (X07). No condition. -/
import Derived.Test.YtpajpkbipagjpaaGreatDoorX06
set_option linter.unusedVariables false
set_option linter.unusedSimpArgs false
namespace Go.Proofs.YtpajpkbipagjpaaGreatDoor.Oc
open Go Go.RowKit Go.Proofs.YtpajpkbipagjpaaGreatDoor.Vm Go.Proofs.YtpajpkbipagjpaaGreatDoor.Tr Go.IntWalk
set_option maxRecDepth 100000
set_option maxHeartbeats 4000000
theorem kid_lt {t : T} {i : Nat} (h : i < t.kids.length) : (t.kids.getD i T.zero).sz < t.sz := by
 rw [List.getD_eq_getElem?_getD, List.getElem?_eq_getElem h]
 exact T.kid_sz (List.getElem_mem h)
theorem kids_len (t : T) : 5 * t.kids.length + 5 + t.bytes.length ≤ t.sz := by
 have := T.szs_len t.kids
 rw [T.sz_eq]; omega
theorem nodes_set {l : List T} {i : Nat} (h : i < l.length) : (nodesD l).set i [.int .i64 (l.getD i T.zero).cls, .int .i64 (l.getD i T.zero).tag, .bool (l.getD i T.zero).cons, .lst (bytesD (l.getD i T.zero).bytes), .lst (nodesD (l.getD i T.zero).kids)] = nodesD l := by
 rw [← nodesD_at h]
 apply List.ext_getElem?
 intro j
 rw [List.getElem?_set]
 by_cases e : i = j
 ·subst e
  have : i < (nodesD l).length := by rw [nodesD_len]; exact h
  rw [if_pos rfl, if_pos this, List.getD_eq_getElem?_getD, List.getElem?_eq_getElem this]; rfl
 ·rw [if_neg e]
theorem trS : (∀ (l : List T) (i : Nat), i < l.length → (nodesD l).set i [.int .i64 (l.getD i T.zero).cls, .int .i64 (l.getD i T.zero).tag, .bool (l.getD i T.zero).cons, .lst (bytesD (l.getD i T.zero).bytes), .lst (nodesD (l.getD i T.zero).kids)] = nodesD l) := fun _ _ h => nodes_set h
def nodeD (t : T) : Vm.Data := .agg (nodeC t)
attribute [go_sem] nodeD
@[go_sem] noncomputable def copyF (n : Nat) : PFn := PF [ST] (fun (t : T) => t.sz < n ∧ t.sz ≤ 100000000) (fun (t : T) => [nodeD t])
noncomputable def ΦC (m : Nat) : Fns := tab [(88, bclF), (117, copyF m)]
theorem ΦC_ok {m : Nat} (h : Pure E 117 (copyF m)) : Sound E (ΦC m) := sound_cons (by kernel_rfl) bcl_ok (sound_cons (by kernel_rfl) h sound_nil)
@[go_sem] theorem ΦC_c : callable Tryz.prog 159 = true := by kernel_rfl
@[go_sem] theorem ΦC_r (m : Nat) : ΦC m 88 = some bclF ∧ ΦC m 117 = some (copyF m) ∧ ΦC m 159 = none := ⟨rfl, rfl, rfl⟩
theorem copy_ok (n : Nat) : Pure E 117 (copyF n) := by
 induction n using Nat.strongRecOn with
 | _ n ih =>
 exact Pure.of_sig (rs := [.cell 2 25]) (n := 29) Tryz.func117 rfl rfl rfl (Nat.le_of_ble_eq_true rfl) (by
  intro (t : T) hds
  have hkl := kids_len t
  have hΦ := ΦC_ok (ih (t.sz) (by omega))
  refine st0 ?_
  refine rg hΦ [1, 2] trE ?_
  refine rF (n := 5) hΦ [6, 8] [1, 2] trE fun L hL => ?_
  repeat' first | refine lfF hL trE fun K' hK => ?_ | with_reducible apply And.intro | exact sd | exact sde trE | exact sdp trE | refine stk trE ?_ | fail
  repeat' first | with_reducible apply And.intro | exact sd | exact sde trE | exact sdp trE | refine stk trE ?_ | fail
  refine oc ncl_own 3 trE ?_
  repeat' first | (refine lf hK trE ?_; clear hK K') | with_reducible apply And.intro | exact sd | exact sde trE | exact sdp trE | refine stk trE ?_ | fail
  refine rg hΦ [1, 2, 14, 15, 16] trE ?_
  refine nx ?_
  refine VC.loopP (ι := Nat) [1, 2, 14, 15] (fun i => [(16, .dat (.int .i64 (i : Int)))]) (fun _ => [(1, .cells [.dat (.int .i64 t.cls), .dat (.int .i64 t.tag), .dat (.bool t.cons), .dat (.lst (bytesD t.bytes)), .sl 3 0 t.kids.length] false), (2, .cells [.dat (.int .i64 0), .dat (.int .i64 0), .dat (.bool false), .nilsl, .nilsl] false), (3, .arr 25 5 (nodesD t.kids) 0)]) (fun i => i ≤ t.kids.length) (fun i => t.kids.length - i) 0 (by omega) (et) ?_
  rintro i hp; try dsimp only at hp
  refine st0 ?_
  refine rg hΦ [1, 2, 14, 15, 16, 17] trE ?_
  refine cn ?_ ?_
  ·intro h; try exact nd h
   all_goals
    have hk := kid_lt (t := t) (i := i) (by omega)
    refine rg hΦ [1, 2, 3, 4, 14, 15, 16] trE ?_
    refine rdL hΦ 6 trE ?_
    refine rgL hΦ trE ?_
    refine nx ?_
    exact ⟨i + 1, by omega, ete (And.intro trE trS), by omega⟩
  ·intro h; try exact nd h
   all_goals
    refine rg hΦ [2] trE ?_
    exact fz trE)
end Go.Proofs.YtpajpkbipagjpaaGreatDoor.Oc
namespace Go.Proofs.YtpajpkbipagjpaaGreatDoor.Oc
open Go Go.RowKit Go.Proofs.YtpajpkbipagjpaaGreatDoor.Vm Go.Proofs.YtpajpkbipagjpaaGreatDoor.Tr Go.IntWalk
set_option maxRecDepth 100000
set_option maxHeartbeats 4000000
@[go_sem] noncomputable def copy0F : PFn := copyF 100000001
theorem copy0_ok : Pure E 117 copy0F := copy_ok 100000001
theorem sz_seq (l : List T) : (seqT l).sz = 5 + T.szs l := by unfold seqT; rw [T.sz_mk]; simp
theorem sz_set (l : List T) : (setT l).sz = 5 + T.szs l := by unfold setT; rw [T.sz_mk]; simp
theorem sz_in (g : Int) (l : List T) : (inT g l).sz = 5 + T.szs l := by unfold inT; rw [T.sz_mk]; simp
theorem sz_prim (g : Int) (b : List UInt8) : (primT g b).sz = 5 + b.length := by unfold primT; rw [T.sz_mk, T.szs_nil]; rfl
theorem szE : (∀ (c g : Int) (b : Bool) (s : List UInt8) (ks : List T), (T.mk c g b s ks).sz = 5 + s.length + T.szs ks) ∧ T.szs [] = 0 ∧ (∀ (t : T) (l : List T), T.szs (t :: l) = t.sz + T.szs l) ∧ (∀ (l : List T), (seqT l).sz = 5 + T.szs l) ∧
 (∀ (l : List T), (setT l).sz = 5 + T.szs l) ∧ (∀ (g : Int) (l : List T), (inT g l).sz = 5 + T.szs l) ∧ (∀ (g : Int) (b : List UInt8), (primT g b).sz = 5 + b.length) :=
 ⟨fun _ _ _ _ _ => T.sz_mk, T.szs_nil, fun _ _ => T.szs_cons, sz_seq, sz_set, sz_in, sz_prim⟩
noncomputable def Φcons : Fns := tab [(117, copy0F)]
theorem Φcons_ok : Sound E Φcons := sound_cons (by kernel_rfl) copy0_ok (sound_nil)
@[go_sem] theorem Φcons_r : Φcons 117 = some copy0F := rfl
@[go_sem] noncomputable def consF : PFn := PF [SI .i64, SI .i64, SL] (fun (c : Int) (g : Int) (l : List T) => T.szs l ≤ 90000000) (fun (c : Int) (g : Int) (l : List T) => [nodeD (.mk c g true [] l)])
theorem cons_ok : Pure E 79 consF := Pure.of_sig (rs := [.cell 6 25]) (n := 12) Tryz.func79 rfl rfl rfl (Nat.le_of_ble_eq_true rfl) (by
 intro (c : Int) (g : Int) (l : List T) hds
 refine st0 ?_
 refine rg Φcons_ok [0, 1, 2, 6] szE ?_
 refine rg Φcons_ok [6] szE ?_
 exact fz szE)
noncomputable def Φprim : Fns := tab [(88, bclF)]
theorem Φprim_ok : Sound E Φprim := sound_cons (by kernel_rfl) bcl_ok (sound_nil)
@[go_sem] theorem Φprim_r : Φprim 88 = some bclF := rfl
@[go_sem] noncomputable def primF : PFn := PF [SI .i64, SI .i64, SY] (fun (c : Int) (g : Int) (b : List UInt8) => b.length ≤ 100000000) (fun (c : Int) (g : Int) (b : List UInt8) => [nodeD (.mk c g false b [])])
theorem prim_ok : Pure E 109 primF := Pure.of_sig (rs := [.cell 6 25]) (n := 12) Tryz.func109 rfl rfl rfl (Nat.le_of_ble_eq_true rfl) (by
 intro (c : Int) (g : Int) (b : List UInt8) hds
 refine st0 ?_
 refine rg Φprim_ok [0, 1, 2, 6] trivial ?_
 refine rg Φprim_ok [6] trivial ?_
 exact fz trivial)
noncomputable def Φcseq : Fns := tab [(79, consF)]
theorem Φcseq_ok : Sound E Φcseq := sound_cons (by kernel_rfl) cons_ok (sound_nil)
@[go_sem] theorem Φcseq_r : Φcseq 79 = some consF := rfl
@[go_sem] noncomputable def cseqF : PFn := PF [SL] (fun (l : List T) => T.szs l ≤ 90000000) (fun (l : List T) => [nodeD (seqT l)])
theorem cseq_ok : Pure E 62 cseqF := Pure.of_sig (rs := [.cell 2 25]) (n := 5) Tryz.func62 rfl rfl rfl (Nat.le_of_ble_eq_true rfl) (by
 intro (l : List T) hds
 refine st0 ?_
 refine rg Φcseq_ok [0, 2] trivial ?_
 refine rg Φcseq_ok [2] trivial ?_
 exact fz trivial)
noncomputable def Φcprim : Fns := tab [(109, primF)]
theorem Φcprim_ok : Sound E Φcprim := sound_cons (by kernel_rfl) prim_ok (sound_nil)
@[go_sem] theorem Φcprim_r : Φcprim 109 = some primF := rfl
@[go_sem] noncomputable def cprimF : PFn := PF [SI .i64, SY] (fun (g : Int) (b : List UInt8) => b.length ≤ 100000000) (fun (g : Int) (b : List UInt8) => [nodeD (primT g b)])
theorem cprim_ok : Pure E 61 cprimF := Pure.of_sig (rs := [.cell 4 25]) (n := 8) Tryz.func61 rfl rfl rfl (Nat.le_of_ble_eq_true rfl) (by
 intro (g : Int) (b : List UInt8) hds
 refine st0 ?_
 refine rg Φcprim_ok [0, 1, 4] trivial ?_
 refine rg Φcprim_ok [4] trivial ?_
 exact fz trivial)
noncomputable def Φcin : Fns := tab [(79, consF)]
theorem Φcin_ok : Sound E Φcin := sound_cons (by kernel_rfl) cons_ok (sound_nil)
@[go_sem] theorem Φcin_r : Φcin 79 = some consF := rfl
@[go_sem] noncomputable def cinF : PFn := PF [SI .i64, SL] (fun (g : Int) (l : List T) => T.szs l ≤ 90000000) (fun (g : Int) (l : List T) => [nodeD (inT g l)])
theorem cin_ok : Pure E 68 cinF := Pure.of_sig (rs := [.cell 4 25]) (n := 8) Tryz.func68 rfl rfl rfl (Nat.le_of_ble_eq_true rfl) (by
 intro (g : Int) (l : List T) hds
 refine st0 ?_
 refine rg Φcin_ok [0, 1, 4] trivial ?_
 refine rg Φcin_ok [4] trivial ?_
 exact fz trivial)
end Go.Proofs.YtpajpkbipagjpaaGreatDoor.Oc
namespace Go.Proofs.YtpajpkbipagjpaaGreatDoor.Oc
open Go Go.RowKit Go.Proofs.YtpajpkbipagjpaaGreatDoor.Vm Go.Proofs.YtpajpkbipagjpaaGreatDoor.Tr Go.IntWalk
set_option maxRecDepth 100000
set_option maxHeartbeats 4000000
theorem take_eq_next {a b : List UInt8} {i : Nat} (h : a.take i = b.take i) (ha : i < a.length) (hb : i < b.length) (e : a.getD i 0 = b.getD i 0) : a.take (i + 1) = b.take (i + 1) := by
 rw [List.take_add_one, List.take_add_one, h, List.getElem?_eq_getElem ha, List.getElem?_eq_getElem hb]
 simp only [List.getD_eq_getElem?_getD, List.getElem?_eq_getElem ha, List.getElem?_eq_getElem hb, Option.getD_some] at e
 rw [e]
theorem u8_nat {x y : UInt8} : ((x.toNat : Int) = (y.toNat : Int)) ↔ x = y := by
 rw [Int.natCast_inj]
 exact ⟨fun h => UInt8.toNat_inj.1 h, fun h => h ▸ rfl⟩
attribute [go_sem] u8_nat
@[go_sem] noncomputable def beqF : PFn := PF [SY, SY] (fun (a : List UInt8) (b : List UInt8) => a.length ≤ 4611686018427387904) (fun (a : List UInt8) (b : List UInt8) => [.bool (decide (a = b))])
theorem beq_ok : Pure E 103 beqF := Pure.of_sig (rs := [.tmp 4]) (n := 26) Tryz.func103 rfl rfl rfl (Nat.le_of_ble_eq_true rfl) (by
 intro (a : List UInt8) (b : List UInt8) hds
 refine st0 ?_
 refine rg sound_nil [0, 1] trivial ?_
 refine rg sound_nil [0, 1, 10] trivial ?_
 refine cn ?_ ?_
 ·intro h; try exact nd h
  all_goals
   refine rg sound_nil [4] trivial ?_
   refine fi trivial ?_
   first
    | exact (decide_eq_false (fun e => by subst e; first | omega | exact h rfl | (simp_all; done))).symm
    | exact (decide_eq_true (by rw [show i = a.length from (by omega), List.take_length, hl, List.take_length] at ht; exact ht)).symm
 ·intro h; try exact nd h
  all_goals
   refine rg sound_nil [0, 1, 12, 13] trivial ?_
   refine nx ?_
   refine VC.loopP (ι := Nat) [0, 1, 12] (fun i => [(13, .dat (.int .i64 (i : Int)))]) (fun _ => []) (fun i => i ≤ a.length ∧ a.length = b.length ∧ a.take i = b.take i) (fun i => a.length - i) 0 (⟨Nat.zero_le _, by omega, rfl⟩) (et) ?_
   rintro i hp; try dsimp only at hp
   obtain ⟨hi, hl, ht⟩ := hp
   refine st0 ?_
   refine rg sound_nil [0, 1, 12, 13, 14] trivial ?_
   refine cn ?_ ?_
   ·intro h; try exact nd h
    all_goals
     refine rg sound_nil [0, 1, 5, 12, 13] trivial ?_
     refine rd sound_nil 9 [0, 1, 12, 13, 24] trivial ?_
     refine cn ?_ ?_
     ·intro h; try exact nd h
      all_goals
       refine rg sound_nil [4] trivial ?_
       refine fi trivial ?_
       first
        | exact (decide_eq_false (fun e => by subst e; first | omega | exact h rfl | (simp_all; done))).symm
        | exact (decide_eq_true (by rw [show i = a.length from (by omega), List.take_length, hl, List.take_length] at ht; exact ht)).symm
     ·intro h; try exact nd h
      all_goals
       refine rgL sound_nil trivial ?_
       refine nx ?_
       exact ⟨i + 1, ⟨by omega, hl, take_eq_next ht (by omega) (by omega) h⟩, et, by omega⟩
   ·intro h; try exact nd h
    all_goals
     refine rg sound_nil [4] trivial ?_
     refine fi trivial ?_
     first
      | exact (decide_eq_false (fun e => by subst e; first | omega | exact h rfl | (simp_all; done))).symm
      | exact (decide_eq_true (by rw [show i = a.length from (by omega), List.take_length, hl, List.take_length] at ht; exact ht)).symm)
@[go_sem] noncomputable def tisF : PFn := PF [ST, SI .i64, SI .i64] (fun (t : T) (c : Int) (g : Int) => True) (fun (t : T) (c : Int) (g : Int) => [.bool (decide (t.cls = c ∧ t.tag = g))])
theorem tis_ok : Pure E 106 tisF := Pure.of_sig (rs := [.tmp 6]) (n := 17) Tryz.func106 rfl rfl rfl (Nat.le_of_ble_eq_true rfl) (by
 intro (t : T) (c : Int) (g : Int) hds
 refine st0 ?_
 refine rg sound_nil [1, 2, 3] trivial ?_
 refine rB sound_nil [6] trivial fun K' hK => ?_
 repeat' first | (refine lf hK trivial ?_; clear hK K') | with_reducible apply And.intro | refine sA trivial (fun _ => ?_) fun _ => ?_ | refine sAb trivial (fun _ => ?_) fun _ => ?_ | refine sAl trivial (fun g => ?_) fun g => ?_ | exact sd | exact sde trivial | exact sdp trivial | refine stk trivial ?_ | fail
 all_goals
  refine fi trivial ?_
  first | (simp_all; done) | fail)
end Go.Proofs.YtpajpkbipagjpaaGreatDoor.Oc
namespace Go.Proofs.YtpajpkbipagjpaaGreatDoor.Oc
open Go Go.RowKit Go.Proofs.YtpajpkbipagjpaaGreatDoor.Vm Go.Proofs.YtpajpkbipagjpaaGreatDoor.Tr Go.IntWalk
set_option maxRecDepth 100000
set_option maxHeartbeats 4000000
theorem T.ext {a b : T} : a = b ↔ (a.cls = b.cls ∧ a.tag = b.tag) ∧ a.cons = b.cons ∧ a.bytes = b.bytes ∧ a.kids = b.kids := by
 cases a; cases b
 simp [T.cls, T.tag, T.cons, T.bytes, T.kids, and_assoc]
theorem takeT_next {a b : List T} {i : Nat} (h : a.take i = b.take i) (ha : i < a.length) (hb : i < b.length) (e : a.getD i T.zero = b.getD i T.zero) : a.take (i + 1) = b.take (i + 1) := by
 rw [List.take_add_one, List.take_add_one, h, List.getElem?_eq_getElem ha, List.getElem?_eq_getElem hb]
 simp only [List.getD_eq_getElem?_getD, List.getElem?_eq_getElem ha, List.getElem?_eq_getElem hb, Option.getD_some] at e
 rw [e]
@[go_sem] noncomputable def rsameF (n : Nat) : PFn := PF [ST, ST] (fun (a : T) (b : T) => a.sz < n ∧ a.sz ≤ 100000000) (fun (a : T) (b : T) => [.bool (decide (a = b))])
noncomputable def ΦRS (m : Nat) : Fns := tab [(15, rsameF m)]
theorem ΦRS_ok {m : Nat} (h : Pure E 15 (rsameF m)) : Sound E (ΦRS m) := sound_cons (by kernel_rfl) h sound_nil
@[go_sem] theorem ΦRS_r (m : Nat) : ΦRS m 15 = some (rsameF m) := rfl
theorem rsame_ok (n : Nat) : Pure E 15 (rsameF n) := by
 induction n using Nat.strongRecOn with
 | _ n ih =>
 exact Pure.of_sig (rs := [.tmp 4]) (n := 64) Tryz.func15 rfl rfl rfl (Nat.le_of_ble_eq_true rfl) (by
  intro (a : T) (b : T) hds
  have hΦ := ΦRS_ok (ih a.sz (by omega))
  have hka := kids_len a
  refine st0 ?_
  refine rg hΦ [2, 3] trE ?_
  refine rB hΦ [2, 3, 43] trE fun K' hK => ?_
  repeat' first | (refine lf hK trE ?_; clear hK K') | with_reducible apply And.intro | refine sA trE (fun _ => ?_) fun _ => ?_ | refine sAb trE (fun _ => ?_) fun _ => ?_ | refine sAl trE (fun g => ?_) fun g => ?_ | exact sd | exact sde trE | exact sdp trE | refine stk trE ?_ | fail
  all_goals
   refine cn ?_ ?_
   ·intro h; try exact nd h
    all_goals
     refine rg hΦ [4] trE ?_
     refine fi trivial ?_
     first
      | exact (decide_eq_false (fun e => by subst e; first | omega | exact h rfl | (simp_all; done))).symm
      | (have hk : a.kids = b.kids := (by rw [show i = a.kids.length from (by omega), List.take_length, hl, List.take_length] at ht; exact ht)
         simp only [T.ext (a := a) (b := b)]; simp_all; done)
      | fail
   ·intro h; try exact nd h
    all_goals
     refine rg hΦ [2, 3, 5] trE ?_
     refine nx ?_
     refine VC.loopP (ι := Nat) [2, 3] (fun i => [(5, .dat (.int .i64 (i : Int)))]) (fun _ => [(1, .cells [.dat (.int .i64 a.cls), .dat (.int .i64 a.tag), .dat (.bool a.cons), .dat (.lst (bytesD a.bytes)), .dat (.lst (nodesD a.kids))] false), (2, .cells [.dat (.int .i64 b.cls), .dat (.int .i64 b.tag), .dat (.bool b.cons), .dat (.lst (bytesD b.bytes)), .dat (.lst (nodesD b.kids))] false)]) (fun i => i ≤ a.kids.length ∧ a.kids.length = b.kids.length ∧ a.kids.take i = b.kids.take i) (fun i => a.kids.length - i) 0 (⟨Nat.zero_le _, by omega, rfl⟩) (et) ?_
     rintro i hp; try dsimp only at hp
     obtain ⟨hi, hl, ht⟩ := hp
     refine st0 ?_
     refine rg hΦ [2, 3, 5, 48] trE ?_
     refine cn ?_ ?_
     ·intro h; try exact nd h
      all_goals
       have hk := kid_lt (t := a) (i := i) (by omega)
       refine rd hΦ 12 [2, 3, 5, 6] trE ?_
       refine rg hΦ [2, 3, 5, 63] trE ?_
       refine cn ?_ ?_
       ·intro h; try exact nd h
        all_goals
         refine rg hΦ [4] trE ?_
         refine fi trivial ?_
         first
          | exact (decide_eq_false (fun e => by subst e; first | omega | exact h rfl | (simp_all; done))).symm
          | (have hk : a.kids = b.kids := (by rw [show i = a.kids.length from (by omega), List.take_length, hl, List.take_length] at ht; exact ht)
             simp only [T.ext (a := a) (b := b)]; simp_all; done)
          | fail
       ·intro h; try exact nd h
        all_goals
         refine rgL hΦ trE ?_
         refine nx ?_
         exact ⟨i + 1, ⟨by omega, hl, takeT_next ht (by omega) (by omega) (by simpa using h)⟩, et, by omega⟩
     ·intro h; try exact nd h
      all_goals
       refine rg hΦ [4] trE ?_
       refine fi trivial ?_
       first
        | exact (decide_eq_false (fun e => by subst e; first | omega | exact h rfl | (simp_all; done))).symm
        | (have hk : a.kids = b.kids := (by rw [show i = a.kids.length from (by omega), List.take_length, hl, List.take_length] at ht; exact ht)
           simp only [T.ext (a := a) (b := b)]; simp_all; done)
        | fail)
@[go_sem] noncomputable def rsame0F : PFn := rsameF 100000001
theorem rsame0_ok : Pure E 15 rsame0F := rsame_ok 100000001
end Go.Proofs.YtpajpkbipagjpaaGreatDoor.Oc
namespace Go.Proofs.YtpajpkbipagjpaaGreatDoor.Oc
open Go Go.RowKit Go.Proofs.YtpajpkbipagjpaaGreatDoor.Vm Go.Proofs.YtpajpkbipagjpaaGreatDoor.Tr Go.IntWalk
set_option maxRecDepth 100000
set_option maxHeartbeats 4000000
theorem alls_next {t : T} {i : Nat} (h : i < t.kids.length) : T.alls (t.kids.take (i + 1)) = T.alls (t.kids.take i) ++ (t.kids.getD i T.zero).all := by
 rw [List.take_add_one, List.getElem?_eq_getElem h, T.alls_append]
 simp [T.alls_cons, T.alls_nil, List.getD_eq_getElem?_getD, h]
theorem alls_take_len {t : T} {i : Nat} : 5 * (T.alls (t.kids.take i)).length ≤ t.sz := by
 have e := T.all_len t
 rw [T.all_eq] at e
 have : (T.alls (t.kids.take i)).length ≤ (T.alls t.kids).length := by
  conv => rhs; rw [← List.take_append_drop i t.kids, T.alls_append]
  simp
 simp at e; omega
def pre (t : T) (i : Nat) : List T := t :: T.alls (t.kids.take i)
end Go.Proofs.YtpajpkbipagjpaaGreatDoor.Oc
namespace Go.Proofs.YtpajpkbipagjpaaGreatDoor.Oc
open Go Go.RowKit Go.Proofs.YtpajpkbipagjpaaGreatDoor.Vm Go.Proofs.YtpajpkbipagjpaaGreatDoor.Tr Go.IntWalk
set_option maxRecDepth 100000
set_option maxHeartbeats 4000000
end Go.Proofs.YtpajpkbipagjpaaGreatDoor.Oc
namespace Go.Proofs.YtpajpkbipagjpaaGreatDoor.Oc
open Go Go.RowKit Go.Proofs.YtpajpkbipagjpaaGreatDoor.Vm Go.Proofs.YtpajpkbipagjpaaGreatDoor.Tr Go.IntWalk
set_option maxRecDepth 100000
set_option maxHeartbeats 4000000
end Go.Proofs.YtpajpkbipagjpaaGreatDoor.Oc
namespace Go.Proofs.YtpajpkbipagjpaaGreatDoor.Oc
open Go Go.RowKit Go.Proofs.YtpajpkbipagjpaaGreatDoor.Vm Go.Proofs.YtpajpkbipagjpaaGreatDoor.Tr Go.IntWalk
set_option maxRecDepth 100000
set_option maxHeartbeats 4000000
def sizeH (h : Int) : Int := if h = 1 then 28 else if h = 2 then 32 else if h = 3 then 48 else if h = 4 then 64 else 0
def bitsH (h : Int) : Int := if h = 1 then 224 else if h = 2 then 256 else if h = 3 then 384 else if h = 4 then 512 else 0
theorem sizesD_len : sizesD.length = 5 := rfl
theorem bits_size (h : Int) : (bitsH h).tdiv 8 = sizeH h := by
 unfold bitsH sizeH; (repeat' split) <;> rfl
end Go.Proofs.YtpajpkbipagjpaaGreatDoor.Oc

/- What functions of the program, of its library and of the document compute: their contracts, and laws about what they compute (X05). No condition. -/
import Derived.Test.YtpajpkbipagjpaaGreatDoorX04
set_option linter.unusedVariables false
set_option linter.unusedSimpArgs false
namespace Go.Proofs.YtpajpkbipagjpaaGreatDoor.Oc
open Go Go.RowKit Go.Proofs.YtpajpkbipagjpaaGreatDoor.Vm Go.Proofs.YtpajpkbipagjpaaGreatDoor.Tr Go.IntWalk
set_option maxRecDepth 100000
set_option maxHeartbeats 4000000
theorem take_eq_next {a b : List UInt8} {i : Nat} (h : a.take i = b.take i) (ha : i < a.length) (hb : i < b.length) (e : a.getD i 0 = b.getD i 0) : a.take (i + 1) = b.take (i + 1) := by
 rw [List.take_add_one, List.take_add_one, h, List.getElem?_eq_getElem ha, List.getElem?_eq_getElem hb]
 simp only [List.getD_eq_getElem?_getD, List.getElem?_eq_getElem ha, List.getElem?_eq_getElem hb, Option.getD_some] at e
 rw [e]
theorem u8_nat {x y : UInt8} : ((x.toNat : Int) = (y.toNat : Int)) ↔ x = y := by
 rw [Int.natCast_inj]
 exact ⟨fun h => UInt8.toNat_inj.1 h, fun h => h ▸ rfl⟩
attribute [go_sem] u8_nat
@[go_sem] noncomputable def beqF : PFn := PF [SY, SY] (fun (a : List UInt8) (b : List UInt8) => a.length ≤ 4611686018427387904) (fun (a : List UInt8) (b : List UInt8) => [.bool (decide (a = b))])
theorem beq_ok : Pure E 103 beqF := Pure.of_sig (rs := [.tmp 4]) (n := 26) Tryz.func103 rfl rfl rfl (Nat.le_of_ble_eq_true rfl) (by
 intro (a : List UInt8) (b : List UInt8) hds
 refine st0 ?_
 refine rg sound_nil [0, 1] trivial ?_
 refine rg sound_nil [0, 1, 10] trivial ?_
 refine cn ?_ ?_
 ·intro h; try exact absurd h (by decide)
  all_goals
   refine rg sound_nil [4] trivial ?_
   refine fi trivial ?_
   first
    | exact (decide_eq_false (fun e => by subst e; first | omega | exact h rfl | (simp_all; done))).symm
    | exact (decide_eq_true (by rw [show i = a.length from (by omega), List.take_length, hl, List.take_length] at ht; exact ht)).symm
 ·intro h; try exact absurd h (by decide)
  all_goals
   refine rg sound_nil [0, 1, 12, 13] trivial ?_
   refine nx ?_
   refine VC.loopP (ι := Nat) [0, 1, 12] (fun i => [(13, .dat (.int .i64 (i : Int)))]) (fun _ => []) (fun i => i ≤ a.length ∧ a.length = b.length ∧ a.take i = b.take i) (fun i => a.length - i) 0 (⟨Nat.zero_le _, by omega, rfl⟩) (et) ?_
   rintro i hp; try dsimp only at hp
   obtain ⟨hi, hl, ht⟩ := hp
   refine st0 ?_
   refine rg sound_nil [0, 1, 12, 13, 14] trivial ?_
   refine cn ?_ ?_
   ·intro h; try exact absurd h (by decide)
    all_goals
     refine rg sound_nil [0, 1, 5, 12, 13] trivial ?_
     refine rd sound_nil 9 [0, 1, 12, 13, 24] trivial ?_
     refine cn ?_ ?_
     ·intro h; try exact absurd h (by decide)
      all_goals
       refine rg sound_nil [4] trivial ?_
       refine fi trivial ?_
       first
        | exact (decide_eq_false (fun e => by subst e; first | omega | exact h rfl | (simp_all; done))).symm
        | exact (decide_eq_true (by rw [show i = a.length from (by omega), List.take_length, hl, List.take_length] at ht; exact ht)).symm
     ·intro h; try exact absurd h (by decide)
      all_goals
       refine rgL sound_nil trivial ?_
       refine nx ?_
       exact ⟨i + 1, ⟨by omega, hl, take_eq_next ht (by omega) (by omega) h⟩, et, by omega⟩
   ·intro h; try exact absurd h (by decide)
    all_goals
     refine rg sound_nil [4] trivial ?_
     refine fi trivial ?_
     first
      | exact (decide_eq_false (fun e => by subst e; first | omega | exact h rfl | (simp_all; done))).symm
      | exact (decide_eq_true (by rw [show i = a.length from (by omega), List.take_length, hl, List.take_length] at ht; exact ht)).symm)
@[go_sem] noncomputable def tisF : PFn := PF [ST, SI .i64, SI .i64] (fun (t : T) (c : Int) (g : Int) => True) (fun (t : T) (c : Int) (g : Int) => [.bool (decide (t.cls = c ∧ t.tag = g))])
theorem tis_ok : Pure E 106 tisF := Pure.of_sig (rs := [.tmp 6]) (n := 17) Tryz.func106 rfl rfl rfl (Nat.le_of_ble_eq_true rfl) (by
 intro (t : T) (c : Int) (g : Int) hds
 refine st0 ?_
 refine rg sound_nil [1, 2, 3] trivial ?_
 refine rB sound_nil [6] trivial fun K' hK => ?_
 repeat' first | (refine lf hK trivial ?_; clear hK K') | with_reducible apply And.intro | refine sA trivial (fun _ => ?_) fun _ => ?_ | refine sAb trivial (fun _ => ?_) fun _ => ?_ | refine sAl trivial (fun g => ?_) fun g => ?_ | exact sd | exact sde trivial | exact sdp trivial | refine stk trivial ?_ | fail
 all_goals
  refine fi trivial ?_
  first | (simp_all; done) | fail)
end Go.Proofs.YtpajpkbipagjpaaGreatDoor.Oc
namespace Go.Proofs.YtpajpkbipagjpaaGreatDoor.Oc
open Go Go.RowKit Go.Proofs.YtpajpkbipagjpaaGreatDoor.Vm Go.Proofs.YtpajpkbipagjpaaGreatDoor.Tr Go.IntWalk
set_option maxRecDepth 100000
set_option maxHeartbeats 4000000
theorem T.ext {a b : T} : a = b ↔ (a.cls = b.cls ∧ a.tag = b.tag) ∧ a.cons = b.cons ∧ a.bytes = b.bytes ∧ a.kids = b.kids := by
 cases a; cases b
 simp [T.cls, T.tag, T.cons, T.bytes, T.kids, and_assoc]
theorem takeT_next {a b : List T} {i : Nat} (h : a.take i = b.take i) (ha : i < a.length) (hb : i < b.length) (e : a.getD i T.zero = b.getD i T.zero) : a.take (i + 1) = b.take (i + 1) := by
 rw [List.take_add_one, List.take_add_one, h, List.getElem?_eq_getElem ha, List.getElem?_eq_getElem hb]
 simp only [List.getD_eq_getElem?_getD, List.getElem?_eq_getElem ha, List.getElem?_eq_getElem hb, Option.getD_some] at e
 rw [e]
theorem elt_sz {l : List T} {i : Nat} (h : i < l.length) : (l.getD i T.zero).sz ≤ T.szs l := by
 rw [List.getD_eq_getElem?_getD, List.getElem?_eq_getElem h]
 exact T.szs_mem (List.getElem_mem h)
theorem kids_szs (t : T) : T.szs t.kids + 5 + t.bytes.length = t.sz := by rw [T.sz_eq t]; omega
@[go_sem] noncomputable def sameF (n : Nat) : PFn := PF [ST, ST] (fun (a : T) (b : T) => a.sz < n ∧ a.sz ≤ 100000000) (fun (a : T) (b : T) => [.bool (decide (a = b))])
@[go_sem] noncomputable def eqfF (n : Nat) : PFn := PF [SL, SL, SD] (fun (a : List T) (b : List T) (d : Vm.Data) => T.szs a < n ∧ T.szs a ≤ 100000000 ∧ d = .fn (.func 76)) (fun (a : List T) (b : List T) (d : Vm.Data) => [.bool (decide (a = b))])
noncomputable def ΦE (m : Nat) : Fns := tab [(76, sameF m)]
theorem ΦE_ok {m : Nat} (h : Pure E 76 (sameF m)) : Sound E (ΦE m) := sound_cons (by kernel_rfl) h sound_nil
@[go_sem] theorem ΦE_r (m : Nat) : ΦE m 76 = some (sameF m) := rfl
theorem eqf_of {m : Nat} (hS : Pure E 76 (sameF m)) : Pure E 114 (eqfF m) := Pure.of_sig (rs := [.tmp 6]) (n := 32) Tryz.func114 rfl rfl rfl (Nat.le_of_ble_eq_true rfl) (by
 intro (a : List T) (b : List T) (d : Vm.Data) hds
 obtain ⟨h1, h2, rfl⟩ := hds
 have hal := T.szs_len a
 have hΦ := ΦE_ok hS
 refine st0 ?_
 refine rg hΦ [0, 1, 2] trE ?_
 refine rg hΦ [0, 1, 2, 14] trE ?_
 refine cn ?_ ?_
 ·intro h; try exact absurd h (by decide)
  all_goals
   refine rg hΦ [6] trE ?_
   refine fi trivial ?_
   first
    | exact (decide_eq_false (fun e => by subst e; first | omega | (simp_all; done))).symm
    | exact (decide_eq_true (by rw [show i = a.length from (by omega), List.take_length, hl, List.take_length] at ht; exact ht)).symm
 ·intro h; try exact absurd h (by decide)
  all_goals
   refine rg hΦ [1, 2, 15, 16, 17] trE ?_
   refine nx ?_
   refine VC.loopP (ι := Nat) [0, 1, 2, 15, 16] (fun i => [(17, .dat (.int .i64 (i : Int)))]) (fun _ => []) (fun i => i ≤ a.length ∧ a.length = b.length ∧ a.take i = b.take i) (fun i => a.length - i) 0 (⟨Nat.zero_le _, by omega, rfl⟩) (et) ?_
   rintro i hp; try dsimp only at hp
   obtain ⟨hi, hl, ht⟩ := hp
   refine st0 ?_
   refine rg hΦ [0, 1, 2, 15, 16, 17, 18] trE ?_
   refine cn ?_ ?_
   ·intro h; try exact absurd h (by decide)
    all_goals
     have hk := elt_sz (l := a) (i := i) (by omega)
     refine rg hΦ [0, 1, 2, 7, 8, 15, 16, 17] trE ?_
     refine rg hΦ [0, 1, 2, 8, 9, 15, 16, 17] trE ?_
     refine rg hΦ [0, 1, 2, 15, 16, 17, 30] trE ?_
     refine cn ?_ ?_
     ·intro h; try exact absurd h (by decide)
      all_goals
       refine rg hΦ [6] trE ?_
       refine fi trivial ?_
       first
        | exact (decide_eq_false (fun e => by subst e; first | omega | (simp_all; done))).symm
        | exact (decide_eq_true (by rw [show i = a.length from (by omega), List.take_length, hl, List.take_length] at ht; exact ht)).symm
     ·intro h; try exact absurd h (by decide)
      all_goals
       refine rgL hΦ trE ?_
       refine nx ?_
       exact ⟨i + 1, ⟨by omega, hl, takeT_next ht (by omega) (by omega) (by simpa using h)⟩, et, by omega⟩
   ·intro h; try exact absurd h (by decide)
    all_goals
     refine rg hΦ [6] trE ?_
     refine fi trivial ?_
     first
      | exact (decide_eq_false (fun e => by subst e; first | omega | (simp_all; done))).symm
      | exact (decide_eq_true (by rw [show i = a.length from (by omega), List.take_length, hl, List.take_length] at ht; exact ht)).symm)
noncomputable def ΦS (m : Nat) : Fns := tab [(106, tisF), (103, beqF), (114, eqfF m)]
theorem ΦS_ok {m : Nat} (h : Pure E 76 (sameF m)) : Sound E (ΦS m) := sound_cons (by kernel_rfl) tis_ok (sound_cons (by kernel_rfl) beq_ok (sound_cons (by kernel_rfl) (eqf_of h) sound_nil))
@[go_sem] theorem ΦS_r (m : Nat) : ΦS m 106 = some tisF ∧ ΦS m 103 = some beqF ∧ ΦS m 114 = some (eqfF m) := ⟨rfl, rfl, rfl⟩
theorem same_ok (n : Nat) : Pure E 76 (sameF n) := by
 induction n using Nat.strongRecOn with
 | _ n ih =>
 exact Pure.of_sig (rs := [.tmp 4]) (n := 32) Tryz.func76 rfl rfl rfl (Nat.le_of_ble_eq_true rfl) (by
  intro (a : T) (b : T) hds
  have hΦ := ΦS_ok (ih a.sz (by omega))
  have hka := kids_szs a
  refine st0 ?_
  refine rg hΦ [2, 3] trE ?_
  refine rB hΦ [4] trE fun K' hK => ?_
  repeat' first | (refine lf hK trE ?_; clear hK K') | with_reducible apply And.intro | refine sA trE (fun _ => ?_) fun _ => ?_ | refine sAb trE (fun _ => ?_) fun _ => ?_ | refine sAl trE (fun g => ?_) fun g => ?_ | exact sd | exact sde trE | exact sdp trE | refine stk trE ?_ | fail
  all_goals
   refine fi trivial ?_
   first | (simp only [T.ext (a := a) (b := b)]; simp_all; done) | fail)
@[go_sem] noncomputable def same0F : PFn := sameF 100000001
theorem same0_ok : Pure E 76 same0F := same_ok 100000001
@[go_sem] noncomputable def rsameF (n : Nat) : PFn := PF [ST, ST] (fun (a : T) (b : T) => a.sz < n ∧ a.sz ≤ 100000000) (fun (a : T) (b : T) => [.bool (decide (a = b))])
noncomputable def ΦRS (m : Nat) : Fns := tab [(15, rsameF m)]
theorem ΦRS_ok {m : Nat} (h : Pure E 15 (rsameF m)) : Sound E (ΦRS m) := sound_cons (by kernel_rfl) h sound_nil
@[go_sem] theorem ΦRS_r (m : Nat) : ΦRS m 15 = some (rsameF m) := rfl
theorem rsame_ok (n : Nat) : Pure E 15 (rsameF n) := by
 induction n using Nat.strongRecOn with
 | _ n ih =>
 exact Pure.of_sig (rs := [.tmp 4]) (n := 64) Tryz.func15 rfl rfl rfl (Nat.le_of_ble_eq_true rfl) (by
  intro (a : T) (b : T) hds
  have hΦ := ΦRS_ok (ih a.sz (by omega))
  have hka := kids_len a
  refine st0 ?_
  refine rg hΦ [2, 3] trE ?_
  refine rB hΦ [2, 3, 43] trE fun K' hK => ?_
  repeat' first | (refine lf hK trE ?_; clear hK K') | with_reducible apply And.intro | refine sA trE (fun _ => ?_) fun _ => ?_ | refine sAb trE (fun _ => ?_) fun _ => ?_ | refine sAl trE (fun g => ?_) fun g => ?_ | exact sd | exact sde trE | exact sdp trE | refine stk trE ?_ | fail
  all_goals
   refine cn ?_ ?_
   ·intro h; try exact absurd h (by decide)
    all_goals
     refine rg hΦ [4] trE ?_
     refine fi trivial ?_
     first
      | exact (decide_eq_false (fun e => by subst e; first | omega | exact h rfl | (simp_all; done))).symm
      | (have hk : a.kids = b.kids := (by rw [show i = a.kids.length from (by omega), List.take_length, hl, List.take_length] at ht; exact ht)
         simp only [T.ext (a := a) (b := b)]; simp_all; done)
      | fail
   ·intro h; try exact absurd h (by decide)
    all_goals
     refine rg hΦ [2, 3, 5] trE ?_
     refine nx ?_
     refine VC.loopP (ι := Nat) [2, 3] (fun i => [(5, .dat (.int .i64 (i : Int)))]) (fun _ => [(1, .cells [.dat (.int .i64 a.cls), .dat (.int .i64 a.tag), .dat (.bool a.cons), .dat (.lst (bytesD a.bytes)), .dat (.lst (nodesD a.kids))] false), (2, .cells [.dat (.int .i64 b.cls), .dat (.int .i64 b.tag), .dat (.bool b.cons), .dat (.lst (bytesD b.bytes)), .dat (.lst (nodesD b.kids))] false)]) (fun i => i ≤ a.kids.length ∧ a.kids.length = b.kids.length ∧ a.kids.take i = b.kids.take i) (fun i => a.kids.length - i) 0 (⟨Nat.zero_le _, by omega, rfl⟩) (et) ?_
     rintro i hp; try dsimp only at hp
     obtain ⟨hi, hl, ht⟩ := hp
     refine st0 ?_
     refine rg hΦ [2, 3, 5, 48] trE ?_
     refine cn ?_ ?_
     ·intro h; try exact absurd h (by decide)
      all_goals
       have hk := kid_lt (t := a) (i := i) (by omega)
       refine rd hΦ 12 [2, 3, 5, 6] trE ?_
       refine rg hΦ [2, 3, 5, 63] trE ?_
       refine cn ?_ ?_
       ·intro h; try exact absurd h (by decide)
        all_goals
         refine rg hΦ [4] trE ?_
         refine fi trivial ?_
         first
          | exact (decide_eq_false (fun e => by subst e; first | omega | exact h rfl | (simp_all; done))).symm
          | (have hk : a.kids = b.kids := (by rw [show i = a.kids.length from (by omega), List.take_length, hl, List.take_length] at ht; exact ht)
             simp only [T.ext (a := a) (b := b)]; simp_all; done)
          | fail
       ·intro h; try exact absurd h (by decide)
        all_goals
         refine rgL hΦ trE ?_
         refine nx ?_
         exact ⟨i + 1, ⟨by omega, hl, takeT_next ht (by omega) (by omega) (by simpa using h)⟩, et, by omega⟩
     ·intro h; try exact absurd h (by decide)
      all_goals
       refine rg hΦ [4] trE ?_
       refine fi trivial ?_
       first
        | exact (decide_eq_false (fun e => by subst e; first | omega | exact h rfl | (simp_all; done))).symm
        | (have hk : a.kids = b.kids := (by rw [show i = a.kids.length from (by omega), List.take_length, hl, List.take_length] at ht; exact ht)
           simp only [T.ext (a := a) (b := b)]; simp_all; done)
        | fail)
@[go_sem] noncomputable def rsame0F : PFn := rsameF 100000001
theorem rsame0_ok : Pure E 15 rsame0F := rsame_ok 100000001
end Go.Proofs.YtpajpkbipagjpaaGreatDoor.Oc
namespace Go.Proofs.YtpajpkbipagjpaaGreatDoor.Oc
open Go Go.RowKit Go.Proofs.YtpajpkbipagjpaaGreatDoor.Vm Go.Proofs.YtpajpkbipagjpaaGreatDoor.Tr Go.IntWalk
set_option maxRecDepth 100000
set_option maxHeartbeats 4000000
theorem alls_next {t : T} {i : Nat} (h : i < t.kids.length) : T.alls (t.kids.take (i + 1)) = T.alls (t.kids.take i) ++ (t.kids.getD i T.zero).all := by
 rw [List.take_add_one, List.getElem?_eq_getElem h, T.alls_append]
 simp [T.alls_cons, T.alls_nil, List.getD_eq_getElem?_getD, h]
theorem alls_take_len {t : T} {i : Nat} : 5 * (T.alls (t.kids.take i)).length ≤ t.sz := by
 have e := T.all_len t
 rw [T.all_eq] at e
 have : (T.alls (t.kids.take i)).length ≤ (T.alls t.kids).length := by
  conv => rhs; rw [← List.take_append_drop i t.kids, T.alls_append]
  simp
 simp at e; omega
def pre (t : T) (i : Nat) : List T := t :: T.alls (t.kids.take i)
theorem pre_next {t : T} {i : Nat} (h : i < t.kids.length) : pre t i ++ (t.kids.getD i T.zero).all = pre t (i + 1) := by unfold pre; rw [alls_next h]; rfl
theorem pre_all (t : T) : pre t t.kids.length = t.all := by unfold pre; rw [List.take_length, T.all_eq]
theorem pre_len (t : T) (i : Nat) : 5 * (pre t i).length ≤ t.sz + 5 := by
 have := alls_take_len (t := t) (i := i)
 unfold pre; rw [List.length_cons]; omega
theorem trL : (∀ (t : T) (i : Nat), i < t.kids.length → pre t i ++ (t.kids.getD i T.zero).all = pre t (i + 1)) ∧ (∀ (t : T) (i : Nat), i < t.kids.length → (pre t i).length + (t.kids.getD i T.zero).all.length = (pre t (i + 1)).length) ∧
 (∀ t : T, pre t t.kids.length = t.all) ∧ (∀ t : T, (pre t 0).length = 1) ∧ ∀ t : T, nodesD (pre t 0) = [[.int .i64 t.cls, .int .i64 t.tag, .bool t.cons, .lst (bytesD t.bytes), .lst (nodesD t.kids)]] :=
 ⟨fun _ _ h => pre_next h, fun _ _ h => by rw [← pre_next h, List.length_append], pre_all, fun t => by simp [pre, T.alls_nil], fun t => by
  unfold pre; rw [List.take_zero, T.alls_nil, nodesD_cons, nodesD_nil, nodeC_eq]⟩
def nodesRow (l : List T) : Vm.Data := .lst (nodesD l)
attribute [go_sem] nodesRow
@[go_sem] noncomputable def listF (n : Nat) : PFn := PF [ST] (fun (t : T) => t.sz < n ∧ t.sz ≤ 100000000) (fun (t : T) => [nodesRow t.all])
noncomputable def ΦLI (m : Nat) : Fns := tab [(57, listF m)]
theorem ΦLI_ok {m : Nat} (h : Pure E 57 (listF m)) : Sound E (ΦLI m) := sound_cons (by kernel_rfl) h sound_nil
@[go_sem] theorem ΦLI_r (m : Nat) : ΦLI m 57 = some (listF m) := rfl
theorem list_ok (n : Nat) : Pure E 57 (listF n) := by
 induction n using Nat.strongRecOn with
 | _ n ih =>
 exact Pure.of_sig (rs := [.tmp 2]) (n := 23) Tryz.func57 rfl rfl rfl (Nat.le_of_ble_eq_true rfl) (by
  intro (t : T) hds
  have hkl := kids_len t
  have hΦ := ΦLI_ok (ih (t.sz) (by omega))
  refine st0 ?_
  refine rg hΦ [1] trE ?_
  refine rg hΦ [1, 3] trE ?_
  refine rg hΦ [1, 3, 4] trE ?_
  refine nx ?_
  refine VC.loopP (ι := Nat) [1] (fun i => [(4, .dat (.int .i64 (i : Int))), (3, .sl 2 0 (pre t i).length)]) (fun i => [(1, .cells [.dat (.int .i64 t.cls), .dat (.int .i64 t.tag), .dat (.bool t.cons), .dat (.lst (bytesD t.bytes)), .dat (.lst (nodesD t.kids))] false), (2, .arr 25 5 (nodesD (pre t i)) 0)]) (fun i => i ≤ t.kids.length) (fun i => t.kids.length - i) 0 (by omega) (ete (And.intro trE trL)) ?_
  rintro i hp; try dsimp only at hp
  have hta := pre_len t i
  refine st0 ?_
  refine rg hΦ [1, 3, 4, 11] trE ?_
  refine cn ?_ ?_
  ·intro h; try exact absurd h (by decide)
   all_goals
    have hk := kid_lt (t := t) (i := i) (by omega)
    have hal := T.all_len (t.kids.getD i T.zero)
    refine rgL hΦ trE ?_
    refine rgL hΦ trE ?_
    refine nx ?_
    exact ⟨i + 1, by omega, ete (And.intro trE trL), by omega⟩
  ·intro h; try exact absurd h (by decide)
   all_goals
    obtain rfl : i = t.kids.length := by omega
    refine rg hΦ [2] trE ?_
    exact fz (And.intro trE trL))
end Go.Proofs.YtpajpkbipagjpaaGreatDoor.Oc
namespace Go.Proofs.YtpajpkbipagjpaaGreatDoor.Oc
open Go Go.RowKit Go.Proofs.YtpajpkbipagjpaaGreatDoor.Vm Go.Proofs.YtpajpkbipagjpaaGreatDoor.Tr Go.IntWalk
set_option maxRecDepth 100000
set_option maxHeartbeats 4000000
theorem kids_next {t : T} {i : Nat} (h : i < t.kids.length) : t.kids.take i ++ [t.kids.getD i T.zero] = t.kids.take (i + 1) := by
 rw [List.take_add_one, List.getElem?_eq_getElem h, List.getD_eq_getElem?_getD, List.getElem?_eq_getElem h]; rfl
theorem trK : (∀ (t : T) (i : Nat), i < t.kids.length → t.kids.take i ++ [t.kids.getD i T.zero] = t.kids.take (i + 1)) ∧ (∀ (t : T) (i : Nat), i ≤ t.kids.length → (t.kids.take i).length = i) ∧ (∀ (t : T), t.kids.take t.kids.length = t.kids) ∧
 (∀ (l : List T) (u : T), nodesD l ++ [[.int .i64 u.cls, .int .i64 u.tag, .bool u.cons, .lst (bytesD u.bytes), .lst (nodesD u.kids)]] = nodesD (l ++ [u])) ∧ (∀ t : T, nodesD (t.kids.take 0) = []) ∧ ∀ (l : List T) (i : Nat), (l.take i).take i = l.take i :=
 ⟨fun _ _ h => kids_next h, fun t i h => by rw [List.length_take]; omega, fun t => List.take_length, fun l u => by rw [← nodesD_append, nodesD_cons, nodesD_nil, nodeC_eq], fun t => by rw [List.take_zero, nodesD_nil], fun l i => by rw [List.take_take, Nat.min_self]⟩
@[go_sem] noncomputable def twinF (n : Nat) : PFn := PF [ST] (fun (t : T) => t.sz < n ∧ t.sz ≤ 100000000) (fun (t : T) => [nodeD t])
noncomputable def ΦTW (m : Nat) : Fns := tab [(16, twinF m)]
theorem ΦTW_ok {m : Nat} (h : Pure E 16 (twinF m)) : Sound E (ΦTW m) := sound_cons (by kernel_rfl) h sound_nil
@[go_sem] theorem ΦTW_r (m : Nat) : ΦTW m 16 = some (twinF m) := rfl
theorem twin_ok (n : Nat) : Pure E 16 (twinF n) := by
 induction n using Nat.strongRecOn with
 | _ n ih =>
 exact Pure.of_sig (rs := [.cell 2 25]) (n := 39) Tryz.func16 rfl rfl rfl (Nat.le_of_ble_eq_true rfl) (by
  intro (t : T) hds
  have hkl := kids_len t
  have hΦ := ΦTW_ok (ih (t.sz) (by omega))
  refine st0 ?_
  refine rg hΦ [1, 2] trE ?_
  refine rg hΦ [1, 2, 3] trE ?_
  refine rg hΦ [1, 2, 3] trE ?_
  refine rg hΦ [1, 2, 3, 4] trE ?_
  refine nx ?_
  refine nlc 3 4 6 25 5 ?_
  refine nx ?_
  refine VC.loopP (ι := Nat) [1, 2, 3] (fun i => [(4, .dat (.int .i64 (i : Int)))]) (fun i => [(1, .cells [.dat (.int .i64 t.cls), .dat (.int .i64 t.tag), .dat (.bool t.cons), .dat (.lst (bytesD t.bytes)), .dat (.lst (nodesD t.kids))] false), (2, .cells [.dat (.int .i64 0), .dat (.int .i64 0), .dat (.bool false), .nilsl, .nilsl] false), (3, .cells [.dat (.int .i64 t.cls), .dat (.int .i64 t.tag), .dat (.bool t.cons), .sl 4 0 t.bytes.length, .sl 6 0 i] false), (4, .arr 5 1 (bytesD t.bytes) 0), (6, .arr 25 5 (nodesD (t.kids.take i)) 0)]) (fun i => i ≤ t.kids.length) (fun i => t.kids.length - i) 0 (by omega) (ete (And.intro trE trK)) ?_
  rintro i hp; try dsimp only at hp
  refine st0 ?_
  refine rg hΦ [1, 2, 3, 4, 23] trE ?_
  refine cn ?_ ?_
  ·intro h; try exact absurd h (by decide)
   all_goals
    have hk := kid_lt (t := t) (i := i) (by omega)
    refine rg hΦ [1, 2, 3, 4, 5] trE ?_
    refine rgL hΦ trE ?_
    refine rgL hΦ trE ?_
    refine nx ?_
    exact ⟨i + 1, by omega, ete (And.intro trE trK), by omega⟩
  ·intro h; try exact absurd h (by decide)
   all_goals
    obtain rfl : i = t.kids.length := by omega
    refine rg hΦ [2] trE ?_
    exact fz (And.intro trE trK))
@[go_sem] noncomputable def twin0F : PFn := twinF 100000001
theorem twin0_ok : Pure E 16 twin0F := twin_ok 100000001
@[go_sem] noncomputable def list0F : PFn := listF 100000001
theorem list0_ok : Pure E 57 list0F := list_ok 100000001
end Go.Proofs.YtpajpkbipagjpaaGreatDoor.Oc
namespace Go.Proofs.YtpajpkbipagjpaaGreatDoor.Oc
open Go Go.RowKit Go.Proofs.YtpajpkbipagjpaaGreatDoor.Vm Go.Proofs.YtpajpkbipagjpaaGreatDoor.Tr Go.IntWalk
set_option maxRecDepth 100000
set_option maxHeartbeats 4000000
theorem wt_app (a b : List T) : T.wt (a ++ b) = T.wt a + T.wt b := by unfold T.wt; rw [List.map_append, List.sum_append]
theorem wt_next {l : List T} {i : Nat} (h : i < l.length) : T.wt (l.take (i + 1)) = T.wt (l.take i) + (5 + (l.getD i T.zero).bytes.length) := by
 rw [List.take_add_one, List.getElem?_eq_getElem h, List.getD_eq_getElem?_getD, List.getElem?_eq_getElem h, wt_app]
 simp [T.wt]
theorem wt_take (l : List T) (i : Nat) : T.wt (l.take i) ≤ T.wt l := by
 conv => rhs; rw [← List.take_append_drop i l, wt_app]
 omega
theorem elt_bytes {l : List T} {i : Nat} (h : i < l.length) : (l.getD i T.zero).bytes.length ≤ T.wt l := by
 have h1 := wt_next h
 have h2 := wt_take l (i + 1)
 omega
theorem trW : (∀ (l : List T) (i : Nat), i < l.length → (T.wt (l.take (i + 1)) : Int) = (T.wt (l.take i) : Int) + 5 + ((l.getD i T.zero).bytes.length : Int)) ∧ ∀ l : List T, T.wt (l.take 0) = 0 := ⟨fun _ _ h => by have := wt_next h; omega, fun l => by simp [T.wt]⟩
noncomputable def ΦWI : Fns := tab [(57, list0F)]
theorem ΦWI_ok : Sound E ΦWI := sound_cons (by kernel_rfl) list0_ok (sound_nil)
@[go_sem] theorem ΦWI_r : ΦWI 57 = some list0F := rfl
@[go_sem] noncomputable def wideF : PFn := PF [ST] (fun (t : T) => t.sz ≤ 100000000) (fun (t : T) => [.bool (decide (5000 < t.sz))])
theorem wide_ok : Pure E 10 wideF := Pure.of_sig (rs := [.tmp 2]) (n := 25) Tryz.func10 rfl rfl rfl (Nat.le_of_ble_eq_true rfl) (by
 intro (t : T) hds
 have hw := T.wt_all t
 have hal := T.all_len t
 refine st0 ?_
 refine rg ΦWI_ok [1] trE ?_
 refine rg ΦWI_ok [3] trE ?_
 refine rg ΦWI_ok [3, 4] trE ?_
 refine rg ΦWI_ok [3, 4, 9, 10] trE ?_
 refine nx ?_
 refine VC.loopP (ι := Nat) [1, 3, 8, 9] (fun i => [(10, .dat (.int .i64 (i : Int))), (4, .dat (.int .i64 (T.wt (t.all.take i) : Int)))]) (fun _ => [(1, .cells [.dat (.int .i64 t.cls), .dat (.int .i64 t.tag), .dat (.bool t.cons), .dat (.lst (bytesD t.bytes)), .dat (.lst (nodesD t.kids))] false)]) (fun i => i ≤ t.all.length) (fun i => t.all.length - i) 0 (by omega) (ete (And.intro trE trW)) ?_
 rintro i hp; try dsimp only at hp
 refine st0 ?_
 refine rg ΦWI_ok [1, 3, 4, 8, 9, 10, 11] trE ?_
 refine cn ?_ ?_
 ·intro h; try exact absurd h (by decide)
  all_goals
   refine rg ΦWI_ok [1, 3, 4, 5, 8, 9, 10] trE ?_
   have hb := elt_bytes (l := t.all) (i := i) (by omega)
   have hn := wt_next (l := t.all) (i := i) (by omega)
   have hm := wt_take t.all i
   refine rgL ΦWI_ok trE ?_
   refine rgL ΦWI_ok trE ?_
   refine nx ?_
   exact ⟨i + 1, by omega, ete (And.intro trE trW), by omega⟩
 ·intro h; try exact absurd h (by decide)
  all_goals
   obtain rfl : i = t.all.length := by omega
   refine rg ΦWI_ok [2] trE ?_
   refine fi trivial ?_
   rw [hw]; exact decide_eq_decide.2 ⟨fun h => by omega, fun h => by omega⟩)
end Go.Proofs.YtpajpkbipagjpaaGreatDoor.Oc
namespace Go.Proofs.YtpajpkbipagjpaaGreatDoor.Oc
open Go Go.RowKit Go.Proofs.YtpajpkbipagjpaaGreatDoor.Vm Go.Proofs.YtpajpkbipagjpaaGreatDoor.Tr Go.IntWalk
set_option maxRecDepth 100000
set_option maxHeartbeats 4000000
def sizeH (h : Int) : Int := if h = 1 then 28 else if h = 2 then 32 else if h = 3 then 48 else if h = 4 then 64 else 0
def bitsH (h : Int) : Int := if h = 1 then 224 else if h = 2 then 256 else if h = 3 then 384 else if h = 4 then 512 else 0
theorem sizesD_len : sizesD.length = 5 := rfl
theorem bits_size (h : Int) : (bitsH h).tdiv 8 = sizeH h := by
 unfold bitsH sizeH; (repeat' split) <;> rfl
@[go_sem] noncomputable def rsizeF : PFn := PF [SI .i64] (fun (h : Int) => True) (fun (h : Int) => [.int .i64 (sizeH h)])
theorem rsize_ok : Pure E 70 rsizeF := Pure.of_sig (rs := [.tmp 2]) (n := 12) Tryz.func70 rfl rfl rfl (Nat.le_of_ble_eq_true rfl) (by
 intro (h : Int) hds
 refine st0 ?_
 refine rg sound_nil [0] trivial ?_
 refine rg sound_nil [3] trivial ?_
 refine rg sound_nil [3, 4] trivial ?_
 refine cn ?_ ?_
 ·intro h; try exact absurd h (by decide)
  all_goals
   refine rg sound_nil [2] trivial ?_
   refine fi trivial ?_
   unfold sizeH; simp_all
 ·intro h; try exact absurd h (by decide)
  all_goals
   refine rg sound_nil [3, 6] trivial ?_
   refine cn ?_ ?_
   ·intro h; try exact absurd h (by decide)
    all_goals
     refine rg sound_nil [2] trivial ?_
     refine fi trivial ?_
     unfold sizeH; simp_all
   ·intro h; try exact absurd h (by decide)
    all_goals
     refine rg sound_nil [3, 8] trivial ?_
     refine cn ?_ ?_
     ·intro h; try exact absurd h (by decide)
      all_goals
       refine rg sound_nil [2] trivial ?_
       refine fi trivial ?_
       unfold sizeH; simp_all
     ·intro h; try exact absurd h (by decide)
      all_goals
       refine rg sound_nil [10] trivial ?_
       refine cn ?_ ?_
       ·intro h; try exact absurd h (by decide)
        all_goals
         refine rg sound_nil [2] trivial ?_
         refine fi trivial ?_
         unfold sizeH; simp_all
       ·intro h; try exact absurd h (by decide)
        all_goals
         refine rg sound_nil [2] trivial ?_
         refine fi trivial ?_
         unfold sizeH; simp_all)
end Go.Proofs.YtpajpkbipagjpaaGreatDoor.Oc
namespace Go.Proofs.YtpajpkbipagjpaaGreatDoor.Oc
open Go Go.RowKit Go.Proofs.YtpajpkbipagjpaaGreatDoor.Vm Go.Proofs.YtpajpkbipagjpaaGreatDoor.Tr Go.IntWalk
set_option maxRecDepth 100000
set_option maxHeartbeats 4000000
def mx : List Nat → Nat
 | [] => 0
 | x :: r => max x (mx r)
theorem mx_append (l : List Nat) (x : Nat) : mx (l ++ [x]) = max (mx l) x := by
 induction l with
 | nil => simp [mx]
 | cons a l ih => simp only [List.cons_append, mx, ih]; omega
theorem mx_one (a : List Nat) (h : 1 ≤ a.length) : mx (a.take 1) = a.getD 0 0 := by
 cases a with
 | nil => simp at h
 | cons x r => simp [mx]
theorem mx_succ (a : List Nat) (k : Nat) (h : k < a.length) : mx (a.take (k + 1)) = max (mx (a.take k)) (a.getD k 0) := by
 rw [List.take_add_one, List.getElem?_eq_getElem h, Option.toList_some, mx_append]
 simp [List.getD_eq_getElem?_getD, List.getElem?_eq_getElem h]
theorem mx_all (l : List Nat) (m : Nat) : mx l ≤ m ↔ ∀ x ∈ l, x ≤ m := by
 induction l with
 | nil => simp [mx]
 | cons a l ih => simp only [mx, List.mem_cons, forall_eq_or_imp, ← ih]; omega
theorem maxI (a b : Nat) : (if (a : Int) < (b : Int) then (b : Int) else (a : Int)) = ((max a b : Nat) : Int) := by split <;> omega
theorem mxE : (∀ (a : List Nat) (k : Nat), k < a.length → mx (a.take (k + 1)) = max (mx (a.take k)) (a.getD k 0)) ∧ (∀ a : List Nat, 1 ≤ a.length → mx (a.take 1) = a.getD 0 0) ∧ (∀ a b : Nat, (if (a : Int) < (b : Int) then (b : Int) else (a : Int)) = ((max a b : Nat) : Int)) ∧ ∀ a : List Nat, a.take a.length = a :=
 ⟨mx_succ, mx_one, maxI, fun _ => List.take_length⟩
@[go_sem] noncomputable def maxF : PFn := PF [SN] (fun (a : List Nat) => 1 ≤ a.length ∧ a.length ≤ 4611686018427387904) (fun (a : List Nat) => [.int .u64 (mx a : Int)])
theorem max_ok : Pure E 198 maxF := Pure.of_sig (rs := [.tmp 2]) (n := 25) Tryz.func198 rfl rfl rfl (Nat.le_of_ble_eq_true rfl) (by
 intro (a : List Nat) hds
 obtain ⟨hl, hl'⟩ := hds
 refine st0 ?_
 refine rg sound_nil [0] mxE ?_
 refine rg sound_nil [0, 7] mxE ?_
 refine cn ?_ ?_
 ·intro h; try exact absurd h (by decide)
  all_goals
   exfalso; omega
 ·intro h; try exact absurd h (by decide)
  all_goals
   refine rg sound_nil [0, 3] mxE ?_
   refine rg sound_nil [0, 3, 4] mxE ?_
   refine nx ?_
   refine VC.loopP (ι := Nat) [0] (fun i => [(3, .dat (.int .u64 (mx (a.take i) : Int))), (4, .dat (.int .i64 (i : Int)))]) (fun _ => []) (fun i => 1 ≤ i ∧ i ≤ a.length) (fun i => a.length - i) 1 (by omega) (ete mxE) ?_
   rintro i hp; try dsimp only at hp
   refine st0 ?_
   refine rg sound_nil [0, 3, 4, 15] mxE ?_
   refine cn ?_ ?_
   ·intro h; try exact absurd h (by decide)
    all_goals
     refine rgL sound_nil mxE ?_
     refine rgL sound_nil mxE ?_
     refine nx ?_
     exact ⟨i + 1, by omega, ete mxE, by omega⟩
   ·intro h; try exact absurd h (by decide)
    all_goals
     obtain rfl : i = a.length := by omega
     refine rg sound_nil [2] mxE ?_
     exact fz mxE)
end Go.Proofs.YtpajpkbipagjpaaGreatDoor.Oc
namespace Go.Proofs.YtpajpkbipagjpaaGreatDoor.Oc
open Go Go.RowKit Go.Proofs.YtpajpkbipagjpaaGreatDoor.Vm Go.Proofs.YtpajpkbipagjpaaGreatDoor.Tr Go.IntWalk
set_option maxRecDepth 100000
set_option maxHeartbeats 4000000
def may (l : List Nat) : Bool := decide (2 ≤ l.length ∧ l.length ≤ 20 ∧ l.getD 0 0 ≤ 2 ∧ (l.getD 0 0 < 2 → l.getD 1 0 < 40) ∧ mx l ≤ 9223372036854775807 ∧ l.getD 1 0 + 40 * l.getD 0 0 ≤ 9223372036854775807)
theorem may_yes (l : List Nat) (h : 2 ≤ l.length ∧ l.length ≤ 20 ∧ l.getD 0 0 ≤ 2 ∧ (l.getD 0 0 < 2 → l.getD 1 0 < 40) ∧ mx l ≤ 9223372036854775807 ∧ l.getD 1 0 + 40 * l.getD 0 0 ≤ 9223372036854775807) : may l = true := decide_eq_true h
theorem may_no (l : List Nat) (h : ¬ (2 ≤ l.length ∧ l.length ≤ 20 ∧ l.getD 0 0 ≤ 2 ∧ (l.getD 0 0 < 2 → l.getD 1 0 < 40) ∧ mx l ≤ 9223372036854775807 ∧ l.getD 1 0 + 40 * l.getD 0 0 ≤ 9223372036854775807)) : may l = false := decide_eq_false h
noncomputable def ΦM : Fns := tab [(198, maxF)]
theorem ΦM_ok : Sound E ΦM := sound_cons (by kernel_rfl) max_ok (sound_nil)
@[go_sem] theorem ΦM_r : ΦM 198 = some maxF := rfl
@[go_sem] noncomputable def checkF : PFn := PF [SN] (fun (l : List Nat) => l.length ≤ 4611686018427387904) (fun (l : List Nat) => [.int .i64 (if may l then 0 else 140)])
theorem check_ok : Pure E 149 checkF := Pure.of_sig (rs := [.tmp 2]) (n := 45) Tryz.func149 rfl rfl rfl (Nat.le_of_ble_eq_true rfl) (by
 intro (l : List Nat) hds
 refine st0 ?_
 refine rg ΦM_ok [0] trivial ?_
 refine rdB (n := 42) ΦM_ok [44] trivial fun L hL => ?_
 repeat' first | (refine lfd hL trivial ?_; clear hL L) | with_reducible apply And.intro | refine sA trivial (fun _ => ?_) fun _ => ?_ | refine sAb trivial (fun _ => ?_) fun _ => ?_ | refine sAl trivial (fun g => ?_) fun g => ?_ | exact sd | exact sde trivial | exact sdp trivial | refine stk trivial ?_ | fail
 all_goals
  refine cn ?_ ?_
  ·intro h; try exact absurd h (by decide)
   all_goals
    refine rg ΦM_ok [2] trivial ?_
    refine fi trivial ?_
    first | (rw [may_yes l (by omega)]; rfl) | (rw [may_no l (by omega)]; rfl)
  ·intro h; try exact absurd h (by decide)
   all_goals
    refine rg ΦM_ok [2] trivial ?_
    refine fi trivial ?_
    first | (rw [may_yes l (by omega)]; rfl) | (rw [may_no l (by omega)]; rfl))
end Go.Proofs.YtpajpkbipagjpaaGreatDoor.Oc

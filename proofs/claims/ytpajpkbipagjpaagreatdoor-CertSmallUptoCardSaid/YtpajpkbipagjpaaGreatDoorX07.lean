/- What functions of the program, of its library and of the document compute: their contracts, and laws about what they compute (X07). No condition. -/
import Derived.Test.YtpajpkbipagjpaaGreatDoorX06
import Derived.Shelf.Strings.Builder1
import Derived.Shelf.Strings.Builder2
import Derived.Shelf.Strings.OnBuilder
import Derived.Shelf.Strconv.Itoa0
import Derived.Shelf.Strconv.Itoa1
import Derived.Shelf.LaysM
import Derived.Shelf.Strconv.Itoa2
import Derived.Shelf.Strconv.Itoa3
import Derived.Shelf.Strconv.Clone
import Derived.Shelf.Strconv.SyntaxError
import Derived.Shelf.LaysC
import Derived.Shelf.Strconv.ToError
import Derived.Shelf.Strconv.Lower
import Derived.Shelf.Strconv.ParseUint10
import Derived.Shelf.Strconv.ParseUint10Empty
import Derived.Shelf.Strconv.RangeError
import Derived.Shelf.Strconv.ToErrorRange
import Derived.Shelf.Strings.Search1
import Derived.Shelf.Strings.Search2
import Derived.Shelf.Strings.Search3
import Derived.Test.YtpajpkbipagjpaaGreatDoorProg
import Derived.Lib.Walk
import Derived.Lib.ItoaNum
import Derived.WalkKit
import Derived.Lib.Strings
import Derived.Lib.ItoaWalk
import Derived.Lib.LaidTab
import Derived.Lib.Hide
import Derived.BigCall
import Derived.Test.YtpajpkbipagjpaaGreatDoorX05
set_option linter.unusedVariables false
set_option linter.unusedSimpArgs false
namespace Go.Proofs.YtpajpkbipagjpaaGreatDoor.Tr
open Go Go.RowKit Go.Proofs.YtpajpkbipagjpaaGreatDoor.Vm
@[reducible] def SPt : Sig := ⟨T, fun t => .ptr (nodeC t), fun _ _ h => by injection h with h; exact nodeC_inj h⟩
theorem SPt_enc {t : T} : SPt.enc t = .ptr (nodeC t) := rfl
theorem SPt_dec {c g : Int} {b : Bool} {s : List UInt8} {ks : List T} : SPt.dec (.ptr [.int .i64 c, .int .i64 g, .bool b, .lst (bytesD s), .lst (nodesD ks)]) = some (.mk c g b s ks) := by
 have := SPt.dec_enc (T.mk c g b s ks)
 rwa [SPt_enc, nodeC] at this
section
variable {β : Type} {z : β} {ss : List Sig} {ds : List Vm.Data}
theorem ap_SPt {f : Fun (SPt :: ss) β} {c g : Int} {b : Bool} {s : List UInt8} {ks : List T} : ap z (SPt :: ss) f (.ptr [.int .i64 c, .int .i64 g, .bool b, .lst (bytesD s), .lst (nodesD ks)] :: ds) = ap z ss (f (T.mk c g b s ks)) ds := by rw [ap_cons, SPt_dec, apO_some]
end
attribute [go_sem] SPt_enc ap_SPt
end Go.Proofs.YtpajpkbipagjpaaGreatDoor.Tr
namespace Go.Proofs.YtpajpkbipagjpaaGreatDoor.Oc
open Go Go.RowKit Go.Proofs.YtpajpkbipagjpaaGreatDoor.Vm Go.Proofs.YtpajpkbipagjpaaGreatDoor.Tr Go.IntWalk
set_option maxRecDepth 100000
set_option maxHeartbeats 4000000
def oidF : Bool → List UInt8 → Bool
 | b, [] => b
 | b, c :: r => if b = true ∧ c.toNat = 128 then false else oidF (decide (c.toNat < 128)) r
def oidB (b : List UInt8) : Bool := oidF true b && decide (0 < b.length)
def goodN (t : T) : Prop := t.cls = 0 ∧ (t.cons = true ∧ t.bytes = [] ∧ (t.tag = 16 ∨ t.tag = 17) ∨ t.cons = false ∧ t.kids = [] ∧ (t.tag = 5 ∧ t.bytes = [] ∨ t.tag = 6 ∧ oidB t.bytes = true))
theorem oidF_step {b : List UInt8} {i : Nat} {g : Bool} (h : i < b.length) : oidF g (b.drop i) = if g = true ∧ (b.getD i 0).toNat = 128 then false else oidF (decide ((b.getD i 0).toNat < 128)) (b.drop (i + 1)) := by
 rw [List.drop_eq_getElem_cons h, oidF, List.getD_eq_getElem?_getD, List.getElem?_eq_getElem h]; rfl
theorem oid_no {b : List UInt8} {i : Nat} {g : Bool} (h : i < b.length) (hp : oidF g (b.drop i) = oidF true b) (hg : g = true) (hx : ((b.getD i 0).toNat : Int) = 128) : oidB b = false := by
 have : oidF true b = false := by rw [← hp, oidF_step h, if_pos ⟨hg, by omega⟩]
 unfold oidB; rw [this]; rfl
theorem oid_go {b : List UInt8} {i : Nat} {g : Bool} (h : i < b.length) (hp : oidF g (b.drop i) = oidF true b) (hx : ¬ (g = true ∧ ((b.getD i 0).toNat : Int) = 128)) : oidF (decide (((b.getD i 0).toNat : Int) < 128)) (b.drop (i + 1)) = oidF true b := by
 rw [← hp, oidF_step h, if_neg (fun h => hx ⟨h.1, by omega⟩)]
 congr 1
 exact decide_eq_decide.2 (by omega)
theorem oid_end {b : List UInt8} {i : Nat} {g : Bool} (h : b.length ≤ i) (hp : oidF g (b.drop i) = oidF true b) : oidB b = (g && decide (0 < b.length)) := by
 unfold oidB; rw [← hp, List.drop_eq_nil_of_le h]; rfl
@[go_sem] noncomputable def oidcF : PFn := PF [SY] (fun (b : List UInt8) => b.length ≤ 4611686018427387904) (fun (b : List UInt8) => [.bool (oidB b)])
theorem oidc_ok : Pure E 300 oidcF := Pure.of_sig (rs := [.tmp 2]) (n := 26) Tryz.func300 rfl rfl rfl (Nat.le_of_ble_eq_true rfl) (by
 intro (b : List UInt8) hds
 refine st0 ?_
 refine rg sound_nil [0] trivial ?_
 refine rg sound_nil [0, 3] trivial ?_
 refine rg sound_nil [0, 3, 6, 7, 8] trivial ?_
 refine nx ?_
 refine VC.loopP (ι := Bool × Nat) [0, 6, 7] (fun z => [(3, .dat (.bool z.1)), (8, .dat (.int .i64 (z.2 : Int)))]) (fun _ => []) (fun z => z.2 ≤ b.length ∧ oidF z.1 (b.drop z.2) = oidF true b) (fun z => b.length - z.2) (true, 0) (⟨Nat.zero_le _, rfl⟩) (et) ?_
 rintro ⟨g, i⟩ hp; try dsimp only at hp
 refine st0 ?_
 refine rg sound_nil [0, 3, 6, 7, 8, 9] trivial ?_
 refine cn ?_ ?_
 ·intro h; try exact na h
  all_goals
   have hi : i < b.length := by omega
   refine rg sound_nil [0, 3, 5, 6, 7, 8] (bytesD_at hi) ?_
   refine rB sound_nil [0, 5, 6, 7, 8, 16] trivial fun K' hK => ?_
   repeat' first | (refine lf hK trivial ?_; clear hK K') | with_reducible apply And.intro | refine sA trivial (fun _ => ?_) fun _ => ?_ | refine sAb trivial (fun _ => ?_) fun _ => ?_ | refine sAl trivial (fun g => ?_) fun g => ?_ | exact sd | exact sde trivial | exact sdp trivial | refine stk trivial ?_ | fail
   all_goals
    refine cn ?_ ?_
    ·intro h; try exact na h
     all_goals
      have hy : oidB b = false := oid_no hi hp.2 (by simp_all) (by simp_all)
      refine rg sound_nil [2] trivial ?_
      first
      | exact fz hy
    ·intro h; try exact na h
     all_goals
      refine rgL sound_nil trivial ?_
      refine rgL sound_nil trivial ?_
      refine nx ?_
      exact ⟨(decide (((b.getD i 0).toNat : Int) < 128), i + 1), ⟨by dsimp only; omega, oid_go (by omega) hp.2 (by simp_all)⟩, et, by dsimp only; omega⟩
 ·intro h; try exact na h
  all_goals
   have hy : oidB b = (g && decide (0 < b.length)) := oid_end (by omega) hp.2
   refine rB sound_nil [2] trivial fun K' hK => ?_
   repeat' first | (refine lf hK trivial ?_; clear hK K') | with_reducible apply And.intro | refine sA trivial (fun _ => ?_) fun _ => ?_ | refine sAb trivial (fun _ => ?_) fun _ => ?_ | refine sAl trivial (fun g => ?_) fun g => ?_ | exact sd | exact sde trivial | exact sdp trivial | refine stk trivial ?_ | fail
   all_goals
    first
    | exact fz hy)
@[go_sem] noncomputable def nulcF : PFn := PF [SY] (fun (b : List UInt8) => b.length ≤ 4611686018427387904) (fun (b : List UInt8) => [.bool (decide ((b.length : Int) = 0))])
theorem nulc_ok : Pure E 299 nulcF := Pure.of_sig (rs := [.tmp 2]) (n := 6) Tryz.func299 rfl rfl rfl (Nat.le_of_ble_eq_true rfl) (by
 intro (b : List UInt8) hds
 refine st0 ?_
 refine rg sound_nil [0] trivial ?_
 refine rg sound_nil [2] trivial ?_
 exact fz trivial)
noncomputable def ΦGB : Fns := tab [(300, oidcF), (299, nulcF)]
theorem ΦGB_ok : Sound E ΦGB := sound_cons (by kernel_rfl) oidc_ok (sound_cons (by kernel_rfl) nulc_ok (sound_nil))
@[go_sem] theorem ΦGB_r : ΦGB 300 = some oidcF ∧ ΦGB 299 = some nulcF ∧ ΦGB 252 = none := ⟨rfl, rfl, rfl⟩
@[go_sem] theorem ΦGB_c : callable Tryz.prog 252 = true := by kernel_rfl
@[go_sem] noncomputable def brkgF : PFn := PF [SPt] (fun (t : T) => goodN t ∧ t.sz ≤ 100000000) (fun (t : T) => [.int .i64 0])
theorem brkg_ok : Pure E 211 brkgF := Pure.of_sig (rs := [.tmp 2]) (n := 110) Tryz.func211 rfl rfl rfl (Nat.le_of_ble_eq_true rfl) (by
 intro (t : T) hds
 obtain ⟨⟨hc, h⟩, hsz⟩ := hds
 obtain ⟨c, tg, co, by', ks⟩ := t
 have hkl := kids_len (T.mk c tg co by' ks)
 simp only [T.cls_mk, T.tag_mk, T.cons_mk, T.bytes_mk, T.kids_mk] at hc h hkl hsz
 subst hc
 rcases h with ⟨rfl, rfl, rfl | rfl⟩ | ⟨rfl, rfl, ⟨rfl, rfl⟩ | ⟨rfl, h4⟩⟩
 ·refine st0 ?_
  refine rg ΦGB_ok [0] trivial ?_
  refine rB ΦGB_ok [0, 5] trivial fun K' hK => ?_
  repeat' first | (refine lf hK trivial ?_; clear hK K') | with_reducible apply And.intro | refine sA trivial (fun _ => ?_) fun _ => ?_ | refine sAb trivial (fun _ => ?_) fun _ => ?_ | refine sAl trivial (fun g => ?_) fun g => ?_ | exact sd | exact sde trivial | exact sdp trivial | refine stk trivial ?_ | fail
  all_goals
   refine cn ?_ ?_
   ·exact fun h => na h
   intro h
   refine rB ΦGB_ok [0, 32] trivial fun K' hK => ?_
   repeat' first | (refine lf hK trivial ?_; clear hK K') | with_reducible apply And.intro | refine sA trivial (fun _ => ?_) fun _ => ?_ | refine sAb trivial (fun _ => ?_) fun _ => ?_ | refine sAl trivial (fun g => ?_) fun g => ?_ | exact sd | exact sde trivial | exact sdp trivial | refine stk trivial ?_ | fail
   all_goals
    refine cn ?_ ?_
    ·exact fun h => na h
    intro h
    refine rg ΦGB_ok [0, 60] trivial ?_
    refine cn ?_ ?_
    ·exact fun h => na h
    intro h
    refine rB ΦGB_ok [0, 3] trivial fun K' hK => ?_
    repeat' first | (refine lf hK trivial ?_; clear hK K') | with_reducible apply And.intro | refine sA trivial (fun _ => ?_) fun _ => ?_ | refine sAb trivial (fun _ => ?_) fun _ => ?_ | refine sAl trivial (fun g => ?_) fun g => ?_ | exact sd | exact sde trivial | exact sdp trivial | refine stk trivial ?_ | fail
    all_goals
     refine rB ΦGB_ok [0, 3, 4] trivial fun K' hK => ?_
     repeat' first | with_reducible apply And.intro | exact sd | exact sde trivial | exact sdp trivial | refine stk trivial ?_ | fail
     refine ec (rs := [.tmp 2]) (n := 34) Tryz.func252 rfl rfl rfl ?_
     refine rg ΦGB_ok [0] trivial ?_
     refine rg ΦGB_ok [0, 3] trivial ?_
     refine rg ΦGB_ok [3, 4] trivial ?_
     refine rg ΦGB_ok [3, 4, 5] trivial ?_
     refine cn ?_ ?_
     ·exact fun h => na h
     intro h
     refine rg ΦGB_ok [3, 4, 7] trivial ?_
     refine cn ?_ ?_
     ·exact fun h => na h
     intro h
     refine rgL ΦGB_ok trivial ?_
     refine cn ?_ ?_
     ·exact fun h => na h
     intro h
     refine rg ΦGB_ok [3, 4, 10] trivial ?_
     refine cn ?_ ?_
     ·exact fun h => na h
     intro h
     refine rg ΦGB_ok [3, 4, 12] trivial ?_
     refine cn ?_ ?_
     ·exact fun h => na h
     intro h
     refine rg ΦGB_ok [3, 4, 16] trivial ?_
     refine cn ?_ ?_
     ·exact fun h => na h
     intro h
     refine rg ΦGB_ok [3, 4, 18] trivial ?_
     refine cn ?_ ?_
     ·exact fun h => na h
     intro h
     refine rg ΦGB_ok [3, 4, 20] trivial ?_
     refine cn ?_ ?_
     ·exact fun h => na h
     intro h
     refine rg ΦGB_ok [3, 4, 22] trivial ?_
     refine cn ?_ ?_
     ·exact fun h => na h
     intro h
     refine rg ΦGB_ok [3, 4, 26] trivial ?_
     refine cn ?_ ?_
     ·exact fun h => na h
     intro h
     refine rg ΦGB_ok [4, 30] trivial ?_
     refine cn ?_ ?_
     ·exact fun h => na h
     intro h
     refine rg ΦGB_ok [32] trivial ?_
     refine cn ?_ ?_
     ·exact fun h => na h
     intro h
     refine rg ΦGB_ok [2] trivial ?_
     refine nx ?_
     refine rt trivial ?_
     repeat' first | (refine lf hK trivial ?_; clear hK K') | with_reducible apply And.intro | exact sd | exact sde trivial | exact sdp trivial | refine stk trivial ?_ | fail
     all_goals
      refine rB ΦGB_ok [0, 3, 4, 83] trivial fun K' hK => ?_
      repeat' first | (refine lf hK trivial ?_; clear hK K') | with_reducible apply And.intro | refine sA trivial (fun _ => ?_) fun _ => ?_ | refine sAb trivial (fun _ => ?_) fun _ => ?_ | refine sAl trivial (fun g => ?_) fun g => ?_ | exact sd | exact sde trivial | exact sdp trivial | refine stk trivial ?_ | fail
      all_goals
       refine cn ?_ ?_
       ·exact fun h => na h
       intro h
       refine rB ΦGB_ok [98] trivial fun K' hK => ?_
       repeat' first | (refine lf hK trivial ?_; clear hK K') | with_reducible apply And.intro | refine sA trivial (fun _ => ?_) fun _ => ?_ | refine sAb trivial (fun _ => ?_) fun _ => ?_ | refine sAl trivial (fun g => ?_) fun g => ?_ | exact sd | exact sde trivial | exact sdp trivial | refine stk trivial ?_ | fail
       all_goals
        refine cn ?_ ?_
        ·exact fun h => na h
        intro h
        refine rg ΦGB_ok [2] trivial ?_
        first
        | exact fz trivial
 ·refine st0 ?_
  refine rg ΦGB_ok [0] trivial ?_
  refine rB ΦGB_ok [0, 5] trivial fun K' hK => ?_
  repeat' first | (refine lf hK trivial ?_; clear hK K') | with_reducible apply And.intro | refine sA trivial (fun _ => ?_) fun _ => ?_ | refine sAb trivial (fun _ => ?_) fun _ => ?_ | refine sAl trivial (fun g => ?_) fun g => ?_ | exact sd | exact sde trivial | exact sdp trivial | refine stk trivial ?_ | fail
  all_goals
   refine cn ?_ ?_
   ·exact fun h => na h
   intro h
   refine rB ΦGB_ok [0, 32] trivial fun K' hK => ?_
   repeat' first | (refine lf hK trivial ?_; clear hK K') | with_reducible apply And.intro | refine sA trivial (fun _ => ?_) fun _ => ?_ | refine sAb trivial (fun _ => ?_) fun _ => ?_ | refine sAl trivial (fun g => ?_) fun g => ?_ | exact sd | exact sde trivial | exact sdp trivial | refine stk trivial ?_ | fail
   all_goals
    refine cn ?_ ?_
    ·exact fun h => na h
    intro h
    refine rg ΦGB_ok [0, 60] trivial ?_
    refine cn ?_ ?_
    ·exact fun h => na h
    intro h
    refine rB ΦGB_ok [0, 3] trivial fun K' hK => ?_
    repeat' first | (refine lf hK trivial ?_; clear hK K') | with_reducible apply And.intro | refine sA trivial (fun _ => ?_) fun _ => ?_ | refine sAb trivial (fun _ => ?_) fun _ => ?_ | refine sAl trivial (fun g => ?_) fun g => ?_ | exact sd | exact sde trivial | exact sdp trivial | refine stk trivial ?_ | fail
    all_goals
     refine rB ΦGB_ok [0, 3, 4] trivial fun K' hK => ?_
     repeat' first | with_reducible apply And.intro | exact sd | exact sde trivial | exact sdp trivial | refine stk trivial ?_ | fail
     refine ec (rs := [.tmp 2]) (n := 34) Tryz.func252 rfl rfl rfl ?_
     refine rg ΦGB_ok [0] trivial ?_
     refine rg ΦGB_ok [0, 3] trivial ?_
     refine rg ΦGB_ok [3, 4] trivial ?_
     refine rg ΦGB_ok [3, 4, 5] trivial ?_
     refine cn ?_ ?_
     ·exact fun h => na h
     intro h
     refine rg ΦGB_ok [3, 4, 7] trivial ?_
     refine cn ?_ ?_
     ·exact fun h => na h
     intro h
     refine rgL ΦGB_ok trivial ?_
     refine cn ?_ ?_
     ·exact fun h => na h
     intro h
     refine rg ΦGB_ok [3, 4, 10] trivial ?_
     refine cn ?_ ?_
     ·exact fun h => na h
     intro h
     refine rg ΦGB_ok [3, 4, 12] trivial ?_
     refine cn ?_ ?_
     ·exact fun h => na h
     intro h
     refine rg ΦGB_ok [3, 4, 16] trivial ?_
     refine cn ?_ ?_
     ·exact fun h => na h
     intro h
     refine rg ΦGB_ok [3, 4, 18] trivial ?_
     refine cn ?_ ?_
     ·exact fun h => na h
     intro h
     refine rg ΦGB_ok [3, 4, 20] trivial ?_
     refine cn ?_ ?_
     ·exact fun h => na h
     intro h
     refine rg ΦGB_ok [3, 4, 22] trivial ?_
     refine cn ?_ ?_
     ·exact fun h => na h
     intro h
     refine rg ΦGB_ok [3, 4, 26] trivial ?_
     refine cn ?_ ?_
     ·exact fun h => na h
     intro h
     refine rg ΦGB_ok [4, 30] trivial ?_
     refine cn ?_ ?_
     ·exact fun h => na h
     intro h
     refine rg ΦGB_ok [32] trivial ?_
     refine cn ?_ ?_
     ·exact fun h => na h
     intro h
     refine rg ΦGB_ok [2] trivial ?_
     refine nx ?_
     refine rt trivial ?_
     repeat' first | (refine lf hK trivial ?_; clear hK K') | with_reducible apply And.intro | exact sd | exact sde trivial | exact sdp trivial | refine stk trivial ?_ | fail
     all_goals
      refine rB ΦGB_ok [0, 3, 4, 83] trivial fun K' hK => ?_
      repeat' first | (refine lf hK trivial ?_; clear hK K') | with_reducible apply And.intro | refine sA trivial (fun _ => ?_) fun _ => ?_ | refine sAb trivial (fun _ => ?_) fun _ => ?_ | refine sAl trivial (fun g => ?_) fun g => ?_ | exact sd | exact sde trivial | exact sdp trivial | refine stk trivial ?_ | fail
      all_goals
       refine cn ?_ ?_
       ·exact fun h => na h
       intro h
       refine rB ΦGB_ok [98] trivial fun K' hK => ?_
       repeat' first | (refine lf hK trivial ?_; clear hK K') | with_reducible apply And.intro | refine sA trivial (fun _ => ?_) fun _ => ?_ | refine sAb trivial (fun _ => ?_) fun _ => ?_ | refine sAl trivial (fun g => ?_) fun g => ?_ | exact sd | exact sde trivial | exact sdp trivial | refine stk trivial ?_ | fail
       all_goals
        refine cn ?_ ?_
        ·exact fun h => na h
        intro h
        refine rg ΦGB_ok [2] trivial ?_
        first
        | exact fz trivial
 ·refine st0 ?_
  refine rg ΦGB_ok [0] trivial ?_
  refine rB ΦGB_ok [0, 5] trivial fun K' hK => ?_
  repeat' first | (refine lf hK trivial ?_; clear hK K') | with_reducible apply And.intro | refine sA trivial (fun _ => ?_) fun _ => ?_ | refine sAb trivial (fun _ => ?_) fun _ => ?_ | refine sAl trivial (fun g => ?_) fun g => ?_ | exact sd | exact sde trivial | exact sdp trivial | refine stk trivial ?_ | fail
  all_goals
   refine cn ?_ ?_
   ·exact fun h => na h
   intro h
   refine rB ΦGB_ok [0, 32] trivial fun K' hK => ?_
   repeat' first | (refine lf hK trivial ?_; clear hK K') | with_reducible apply And.intro | refine sA trivial (fun _ => ?_) fun _ => ?_ | refine sAb trivial (fun _ => ?_) fun _ => ?_ | refine sAl trivial (fun g => ?_) fun g => ?_ | exact sd | exact sde trivial | exact sdp trivial | refine stk trivial ?_ | fail
   all_goals
    refine cn ?_ ?_
    ·exact fun h => na h
    intro h
    refine rg ΦGB_ok [0, 60] trivial ?_
    refine cn ?_ ?_
    ·exact fun h => na h
    intro h
    refine rB ΦGB_ok [0, 3] trivial fun K' hK => ?_
    repeat' first | (refine lf hK trivial ?_; clear hK K') | with_reducible apply And.intro | refine sA trivial (fun _ => ?_) fun _ => ?_ | refine sAb trivial (fun _ => ?_) fun _ => ?_ | refine sAl trivial (fun g => ?_) fun g => ?_ | exact sd | exact sde trivial | exact sdp trivial | refine stk trivial ?_ | fail
    all_goals
     refine rB ΦGB_ok [0, 3, 4] trivial fun K' hK => ?_
     repeat' first | with_reducible apply And.intro | exact sd | exact sde trivial | exact sdp trivial | refine stk trivial ?_ | fail
     refine ec (rs := [.tmp 2]) (n := 34) Tryz.func252 rfl rfl rfl ?_
     refine rg ΦGB_ok [0] trivial ?_
     refine rg ΦGB_ok [0, 3] trivial ?_
     refine rg ΦGB_ok [3, 4] trivial ?_
     refine rg ΦGB_ok [3, 4, 5] trivial ?_
     refine cn ?_ ?_
     ·exact fun h => na h
     intro h
     refine rg ΦGB_ok [3, 4, 7] trivial ?_
     refine cn ?_ ?_
     ·exact fun h => na h
     intro h
     refine rgL ΦGB_ok trivial ?_
     refine cn ?_ ?_
     ·exact fun h => na h
     intro h
     refine rg ΦGB_ok [3, 4, 10] trivial ?_
     refine cn ?_ ?_
     ·exact fun h => na h
     intro h
     refine rg ΦGB_ok [3, 4, 12] trivial ?_
     refine cn ?_ ?_
     ·exact fun h => na h
     intro h
     refine rg ΦGB_ok [3, 4, 16] trivial ?_
     refine cn ?_ ?_
     ·intro h; try exact na h
      all_goals
       refine rg ΦGB_ok [2] trivial ?_
       refine nx ?_
       refine rt trivial ?_
       repeat' first | (refine lf hK trivial ?_; clear hK K') | with_reducible apply And.intro | exact sd | exact sde trivial | exact sdp trivial | refine stk trivial ?_ | fail
       all_goals
        refine rB ΦGB_ok [0, 3, 4, 83] trivial fun K' hK => ?_
        repeat' first | (refine lf hK trivial ?_; clear hK K') | with_reducible apply And.intro | refine sA trivial (fun _ => ?_) fun _ => ?_ | refine sAb trivial (fun _ => ?_) fun _ => ?_ | refine sAl trivial (fun g => ?_) fun g => ?_ | exact sd | exact sde trivial | exact sdp trivial | refine stk trivial ?_ | fail
        all_goals
         refine cn ?_ ?_
         ·exact fun h => na h
         intro h
         refine rB ΦGB_ok [98] trivial fun K' hK => ?_
         repeat' first | (refine lf hK trivial ?_; clear hK K') | with_reducible apply And.intro | refine sA trivial (fun _ => ?_) fun _ => ?_ | refine sAb trivial (fun _ => ?_) fun _ => ?_ | refine sAl trivial (fun g => ?_) fun g => ?_ | exact sd | exact sde trivial | exact sdp trivial | refine stk trivial ?_ | fail
         all_goals
          refine cn ?_ ?_
          ·exact fun h => na h
          intro h
          refine rg ΦGB_ok [2] trivial ?_
          first
          | exact fz trivial
     ·exact fun h => na h
 ·refine st0 ?_
  refine rg ΦGB_ok [0] h4 ?_
  refine rB ΦGB_ok [0, 5] h4 fun K' hK => ?_
  repeat' first | (refine lf hK h4 ?_; clear hK K') | with_reducible apply And.intro | refine sA h4 (fun _ => ?_) fun _ => ?_ | refine sAb h4 (fun _ => ?_) fun _ => ?_ | refine sAl h4 (fun g => ?_) fun g => ?_ | exact sd | exact sde h4 | exact sdp h4 | refine stk h4 ?_ | fail
  all_goals
   refine cn ?_ ?_
   ·exact fun h => na h
   intro h
   refine rB ΦGB_ok [0, 32] h4 fun K' hK => ?_
   repeat' first | (refine lf hK h4 ?_; clear hK K') | with_reducible apply And.intro | refine sA h4 (fun _ => ?_) fun _ => ?_ | refine sAb h4 (fun _ => ?_) fun _ => ?_ | refine sAl h4 (fun g => ?_) fun g => ?_ | exact sd | exact sde h4 | exact sdp h4 | refine stk h4 ?_ | fail
   all_goals
    refine cn ?_ ?_
    ·exact fun h => na h
    intro h
    refine rg ΦGB_ok [0, 60] h4 ?_
    refine cn ?_ ?_
    ·exact fun h => na h
    intro h
    refine rB ΦGB_ok [0, 3] h4 fun K' hK => ?_
    repeat' first | (refine lf hK h4 ?_; clear hK K') | with_reducible apply And.intro | refine sA h4 (fun _ => ?_) fun _ => ?_ | refine sAb h4 (fun _ => ?_) fun _ => ?_ | refine sAl h4 (fun g => ?_) fun g => ?_ | exact sd | exact sde h4 | exact sdp h4 | refine stk h4 ?_ | fail
    all_goals
     refine rB ΦGB_ok [0, 3, 4] h4 fun K' hK => ?_
     repeat' first | with_reducible apply And.intro | exact sd | exact sde h4 | exact sdp h4 | refine stk h4 ?_ | fail
     refine ec (rs := [.tmp 2]) (n := 34) Tryz.func252 rfl rfl rfl ?_
     refine rg ΦGB_ok [0] trivial ?_
     refine rg ΦGB_ok [0, 3] trivial ?_
     refine rg ΦGB_ok [3, 4] trivial ?_
     refine rg ΦGB_ok [3, 4, 5] trivial ?_
     refine cn ?_ ?_
     ·exact fun h => na h
     intro h
     refine rg ΦGB_ok [3, 4, 7] trivial ?_
     refine cn ?_ ?_
     ·exact fun h => na h
     intro h
     refine rgL ΦGB_ok trivial ?_
     refine cn ?_ ?_
     ·exact fun h => na h
     intro h
     refine rg ΦGB_ok [3, 4, 10] trivial ?_
     refine cn ?_ ?_
     ·exact fun h => na h
     intro h
     refine rg ΦGB_ok [3, 4, 12] trivial ?_
     refine cn ?_ ?_
     ·exact fun h => na h
     intro h
     refine rg ΦGB_ok [3, 4, 16] trivial ?_
     refine cn ?_ ?_
     ·exact fun h => na h
     intro h
     refine rg ΦGB_ok [3, 4, 18] trivial ?_
     refine cn ?_ ?_
     ·intro h; try exact na h
      all_goals
       refine rg ΦGB_ok [2] trivial ?_
       refine nx ?_
       refine rt h4 ?_
       repeat' first | (refine lf hK h4 ?_; clear hK K') | with_reducible apply And.intro | exact sd | exact sde h4 | exact sdp h4 | refine stk h4 ?_ | fail
       all_goals
        refine rB ΦGB_ok [0, 3, 4, 83] h4 fun K' hK => ?_
        repeat' first | (refine lf hK h4 ?_; clear hK K') | with_reducible apply And.intro | refine sA h4 (fun _ => ?_) fun _ => ?_ | refine sAb h4 (fun _ => ?_) fun _ => ?_ | refine sAl h4 (fun g => ?_) fun g => ?_ | exact sd | exact sde h4 | exact sdp h4 | refine stk h4 ?_ | fail
        all_goals
         refine cn ?_ ?_
         ·exact fun h => na h
         intro h
         refine rB ΦGB_ok [98] h4 fun K' hK => ?_
         repeat' first | (refine lf hK h4 ?_; clear hK K') | with_reducible apply And.intro | refine sA h4 (fun _ => ?_) fun _ => ?_ | refine sAb h4 (fun _ => ?_) fun _ => ?_ | refine sAl h4 (fun g => ?_) fun g => ?_ | exact sd | exact sde h4 | exact sdp h4 | refine stk h4 ?_ | fail
         all_goals
          refine cn ?_ ?_
          ·exact fun h => na h
          intro h
          refine rg ΦGB_ok [2] h4 ?_
          first
          | exact fz trivial
     ·exact fun h => na h)
end Go.Proofs.YtpajpkbipagjpaaGreatDoor.Oc
namespace Go.Proofs.YtpajpkbipagjpaaGreatDoor.Oc
open Go Go.RowKit Go.Proofs.YtpajpkbipagjpaaGreatDoor.Vm Go.Proofs.YtpajpkbipagjpaaGreatDoor.Tr Go.IntWalk
set_option maxRecDepth 100000
set_option maxHeartbeats 4000000
theorem all_sz (t : T) : ∀ x ∈ t.all, x.sz ≤ t.sz := by
 refine T.all_induct (P := fun t => ∀ x ∈ t.all, x.sz ≤ t.sz) (fun t ih x hx => ?_) t
 rw [T.all_eq, List.mem_cons] at hx
 rcases hx with rfl | hx
 ·exact Nat.le_refl _
 ·have key : ∀ l : List T, (∀ k ∈ l, k ∈ t.kids) → x ∈ T.alls l → x.sz ≤ t.sz := by
   intro l
   induction l with
   | nil => intro _ h; rw [T.alls_nil] at h; cases h
   | cons k l ihl =>
     intro hl h
     rw [T.alls_cons, List.mem_append] at h
     rcases h with h | h
     ·exact Nat.le_trans (ih k (hl k (by simp)) x h) (Nat.le_of_lt (T.kid_sz (hl k (by simp))))
     ·exact ihl (fun k hk => hl k (by simp [hk])) h
  exact key t.kids (fun _ h => h) hx
def goodT (t : T) : Prop := (∀ x ∈ t.all, goodN x) ∧ dep t ≤ 24 ∧ t.all.length ≤ 4000 ∧ t.sz ≤ 90000
theorem fld_true {α σ : Type} {g : σ → σ} : ∀ (l : List α) (k : σ), ∃ k', fld (fun (_ : α) (k : σ) => (true, g k)) l k = (true, k')
 | [], k => ⟨k, rfl⟩
 | x :: r, k => fld_true r (g k)
noncomputable def ΦWG : Fns := tab [(209, cnt0F), (211, brkgF)]
theorem ΦWG_ok : Sound E ΦWG := sound_cons (by kernel_rfl) cnt0_ok (sound_cons (by kernel_rfl) brkg_ok (sound_nil))
@[go_sem] theorem ΦWG_r : ΦWG 209 = some cnt0F ∧ ΦWG 211 = some brkgF ∧ ΦWG 210 = none ∧ ΦWG 251 = none := ⟨rfl, rfl, rfl, rfl⟩
@[go_sem] theorem ΦWG_c : callable Tryz.prog 210 = true ∧ callable Tryz.prog 251 = true := ⟨by kernel_rfl, by kernel_rfl⟩
@[go_sem] noncomputable def wronggF : PFn := PF [ST] (fun (t : T) => goodT t) (fun (t : T) => [.int .i64 0, .int .i64 (-1)])
theorem wrongg_ok : Pure E 158 wronggF := Pure.of_sig (rs := [.cell 2 3, .tmp 3]) (n := 31) Tryz.func158 rfl rfl rfl (Nat.le_of_ble_eq_true rfl) (by
 intro (t : T) hds
 obtain ⟨hg, hd, hn, hsz⟩ := hds
 refine st0 ?_
 refine rg ΦWG_ok [1, 2, 7] trivial ?_
 refine rg ΦWG_ok [1, 2, 4, 5, 7] trivial ?_
 refine rg ΦWG_ok [1, 2, 4, 7, 13] trivial ?_
 refine cn ?_ ?_
 ·exact fun h => na h
 intro h
 refine rg ΦWG_ok [1, 2, 7, 16] trivial ?_
 refine cn ?_ ?_
 ·exact fun h => na h
 intro h
 refine rg ΦWG_ok [1, 2, 6, 7] trivial ?_
 refine rB ΦWG_ok [2, 6, 7, 19] trivial fun K' hK => ?_
 repeat' first | with_reducible apply And.intro | exact sd | exact sde trivial | exact sdp trivial | refine stk trivial ?_ | fail
 refine ec (rs := [.tmp 2]) (n := 4) Tryz.func210 rfl rfl rfl ?_
 refine rg ΦWG_ok [1] trivial ?_
 refine rg ΦWG_ok [2] trivial ?_
 refine nx ?_
 refine rt trivial ?_
 repeat' first | (refine lf hK trivial ?_; clear hK K') | with_reducible apply And.intro | exact sd | exact sde trivial | exact sdp trivial | refine stk trivial ?_ | fail
 all_goals
  refine nx ?_
  refine re (rs := []) (n := 6) 20 21 Tryz.func250 rfl rfl rfl fun A B hA hB => ?_
  refine rBL ΦWG_ok  trivial fun K' hK => ?_
  repeat' first | with_reducible apply And.intro | exact sd | exact sde trivial | exact sdp trivial | refine stk trivial ?_ | fail
  refine VCcall.frzArg (x := _) (st' := _) (by (simp -implicitDefEqProofs only [go_sem]; exact rfl)) ?_
  refine walk_ok (l := 21) (H := fun (k : Int) => [(21, .loop [(2, .ref 2 0), (6, .ref 3 0), (7, .junk), (19, .fn (.func 250) [] [.ref 4 0])] 31 [20] A B .ready none), (20, .defer), (4, .cells [.ref 1 0] false), (3, .cells [.dat (.int .i64 k)] false), (2, .cells [.dat (.int .i64 0)] false), (1, .cells [.dat (.int .i64 t.cls), .dat (.int .i64 t.tag), .dat (.bool t.cons), .dat (.lst (bytesD t.bytes)), .dat (.lst (nodesD t.kids))] true)]) (HL := fun (k : Int) => [(21, .loop [(2, .ref 2 0), (6, .ref 3 0), (7, .junk), (19, .fn (.func 250) [] [.ref 4 0])] 31 [20] A B .ready none), (20, .defer), (4, .cells [.ref 1 0] false), (3, .cells [.dat (.int .i64 k)] false), (2, .cells [.dat (.int .i64 0)] false), (1, .cells [.dat (.int .i64 t.cls), .dat (.int .i64 t.tag), .dat (.bool t.cons), .dat (.lst (bytesD t.bytes)), .dat (.lst (nodesD t.kids))] true)]) (f := fun _ k => (true, IntKind.i64.wrap (k + 1))) (P := fun x => goodN x ∧ x.sz ≤ 100000000) ?_ t.sz t (Nat.le_refl _) (by omega) (fun x hx => ⟨hg x hx, Nat.le_trans (all_sz t x hx) (by omega)⟩) _ _ 0 _ ?_
  ·intro x k c stk K hP hK
   refine yd hA ?_
   refine rgL ΦWG_ok trivial ?_
   refine nx ?_
   refine yb hB ?_
   have hP2 := hP.2
   refine rg ΦWG_ok [2, 6] (eq_true hP.1) ?_
   refine rg ΦWG_ok [6, 24] trivial ?_
   refine cn ?_ ?_
   ·exact fun h => na h
   intro h
   refine rgL ΦWG_ok trivial ?_
   refine nx ?_
   refine rt trivial ?_
   exact hK
  obtain ⟨k1, hk1⟩ := fld_true (g := fun k => IntKind.i64.wrap (k + 1)) t.all 0
  rw [hk1]
  dsimp only [goW]
  refine rt trivial ?_
  repeat' first | (refine lfL hK trivial ?_; clear hK K') | with_reducible apply And.intro | exact sd | exact sde trivial | exact sdp trivial | refine stk trivial ?_ | fail
  all_goals
   refine nx ?_
   refine rt trivial ?_
   refine ya ?_
   refine rg ΦWG_ok [2, 6, 28] trivial ?_
   refine cn ?_ ?_
   ·intro h; try exact na h
    all_goals
     refine rg ΦWG_ok [2, 3] trivial ?_
     refine nx ?_
     refine pureK_r (pureS_one (l := 20) (by simp -implicitDefEqProofs only [go_sem]) ?_)
     first
     | exact fz trivial
   ·exact fun h => na h)
noncomputable def ΦKG : Fns := tab [(158, wronggF)]
theorem ΦKG_ok : Sound E ΦKG := sound_cons (by kernel_rfl) wrongg_ok (sound_nil)
@[go_sem] theorem ΦKG_r : ΦKG 158 = some wronggF := rfl
@[go_sem] noncomputable def checkgF : PFn := PF [ST] (fun (t : T) => goodT t) (fun (t : T) => [.int .i64 0])
theorem checkg_ok : Pure E 116 checkgF := Pure.of_sig (rs := [.tmp 2]) (n := 12) Tryz.func116 rfl rfl rfl (Nat.le_of_ble_eq_true rfl) (by
 intro (t : T) hds
 refine st0 ?_
 refine rg ΦKG_ok [1] trivial ?_
 refine rg ΦKG_ok [3] trivial ?_
 refine rg ΦKG_ok [11] trivial ?_
 refine cn ?_ ?_
 ·exact fun h => na h
 intro h
 refine rg ΦKG_ok [2] trivial ?_
 exact fz trivial)
end Go.Proofs.YtpajpkbipagjpaaGreatDoor.Oc
namespace Go.Proofs.YtpajpkbipagjpaaGreatDoor.Oc
open Go Go.RowKit Go.Proofs.YtpajpkbipagjpaaGreatDoor.Vm Go.Proofs.YtpajpkbipagjpaaGreatDoor.Tr Go.IntWalk
set_option maxRecDepth 100000
set_option maxHeartbeats 4000000
def mx : List Nat → Nat
 | [] => 0
 | x :: r => max x (mx r)
theorem mx_append (l : List Nat) (x : Nat) : mx (l ++ [x]) = max (mx l) x := by
 induction l with
 | nil => simp [mx]
 | cons a l ih => simp only [List.cons_append, mx, ih]; omega
theorem mx_one (a : List Nat) (h : 1 ≤ a.length) : mx (a.take 1) = a.getD 0 0 := by
 cases a with
 | nil => simp at h
 | cons x r => simp [mx]
theorem mx_succ (a : List Nat) (k : Nat) (h : k < a.length) : mx (a.take (k + 1)) = max (mx (a.take k)) (a.getD k 0) := by
 rw [List.take_add_one, List.getElem?_eq_getElem h, Option.toList_some, mx_append]
 simp [List.getD_eq_getElem?_getD, List.getElem?_eq_getElem h]
theorem mx_all (l : List Nat) (m : Nat) : mx l ≤ m ↔ ∀ x ∈ l, x ≤ m := by
 induction l with
 | nil => simp [mx]
 | cons a l ih => simp only [mx, List.mem_cons, forall_eq_or_imp, ← ih]; omega
theorem maxI (a b : Nat) : (if (a : Int) < (b : Int) then (b : Int) else (a : Int)) = ((max a b : Nat) : Int) := by split <;> omega
theorem mxE : (∀ (a : List Nat) (k : Nat), k < a.length → mx (a.take (k + 1)) = max (mx (a.take k)) (a.getD k 0)) ∧ (∀ a : List Nat, 1 ≤ a.length → mx (a.take 1) = a.getD 0 0) ∧ (∀ a b : Nat, (if (a : Int) < (b : Int) then (b : Int) else (a : Int)) = ((max a b : Nat) : Int)) ∧ ∀ a : List Nat, a.take a.length = a :=
 ⟨mx_succ, mx_one, maxI, fun _ => List.take_length⟩
@[go_sem] noncomputable def maxF : PFn := PF [SN] (fun (a : List Nat) => 1 ≤ a.length ∧ a.length ≤ 4611686018427387904) (fun (a : List Nat) => [.int .u64 (mx a : Int)])
theorem max_ok : Pure E 198 maxF := Pure.of_sig (rs := [.tmp 2]) (n := 25) Tryz.func198 rfl rfl rfl (Nat.le_of_ble_eq_true rfl) (by
 intro (a : List Nat) hds
 obtain ⟨hl, hl'⟩ := hds
 refine st0 ?_
 refine rg sound_nil [0] mxE ?_
 refine rg sound_nil [0, 7] mxE ?_
 refine cn ?_ ?_
 ·intro h; try exact nd h
  all_goals
   exfalso; omega
 ·intro h; try exact nd h
  all_goals
   refine rg sound_nil [0, 3] mxE ?_
   refine rg sound_nil [0, 3, 4] mxE ?_
   refine nx ?_
   refine VC.loopP (ι := Nat) [0] (fun i => [(3, .dat (.int .u64 (mx (a.take i) : Int))), (4, .dat (.int .i64 (i : Int)))]) (fun _ => []) (fun i => 1 ≤ i ∧ i ≤ a.length) (fun i => a.length - i) 1 (by omega) (ete mxE) ?_
   rintro i hp; try dsimp only at hp
   refine st0 ?_
   refine rg sound_nil [0, 3, 4, 15] mxE ?_
   refine cn ?_ ?_
   ·intro h; try exact nd h
    all_goals
     refine rgL sound_nil mxE ?_
     refine rgL sound_nil mxE ?_
     refine nx ?_
     exact ⟨i + 1, by omega, ete mxE, by omega⟩
   ·intro h; try exact nd h
    all_goals
     obtain rfl : i = a.length := by omega
     refine rg sound_nil [2] mxE ?_
     exact fz mxE)
end Go.Proofs.YtpajpkbipagjpaaGreatDoor.Oc
namespace Go.Proofs.YtpajpkbipagjpaaGreatDoor.Oc
open Go Go.RowKit Go.Proofs.YtpajpkbipagjpaaGreatDoor.Vm Go.Proofs.YtpajpkbipagjpaaGreatDoor.Tr Go.IntWalk
set_option maxRecDepth 100000
set_option maxHeartbeats 4000000
def may (l : List Nat) : Bool := decide (2 ≤ l.length ∧ l.length ≤ 20 ∧ l.getD 0 0 ≤ 2 ∧ (l.getD 0 0 < 2 → l.getD 1 0 < 40) ∧ mx l ≤ 9223372036854775807 ∧ l.getD 1 0 + 40 * l.getD 0 0 ≤ 9223372036854775807)
theorem may_yes (l : List Nat) (h : 2 ≤ l.length ∧ l.length ≤ 20 ∧ l.getD 0 0 ≤ 2 ∧ (l.getD 0 0 < 2 → l.getD 1 0 < 40) ∧ mx l ≤ 9223372036854775807 ∧ l.getD 1 0 + 40 * l.getD 0 0 ≤ 9223372036854775807) : may l = true := decide_eq_true h
theorem may_no (l : List Nat) (h : ¬ (2 ≤ l.length ∧ l.length ≤ 20 ∧ l.getD 0 0 ≤ 2 ∧ (l.getD 0 0 < 2 → l.getD 1 0 < 40) ∧ mx l ≤ 9223372036854775807 ∧ l.getD 1 0 + 40 * l.getD 0 0 ≤ 9223372036854775807)) : may l = false := decide_eq_false h
noncomputable def ΦM : Fns := tab [(198, maxF)]
theorem ΦM_ok : Sound E ΦM := sound_cons (by kernel_rfl) max_ok (sound_nil)
@[go_sem] theorem ΦM_r : ΦM 198 = some maxF := rfl
@[go_sem] noncomputable def checkF : PFn := PF [SN] (fun (l : List Nat) => l.length ≤ 4611686018427387904) (fun (l : List Nat) => [.int .i64 (if may l then 0 else 140)])
theorem check_ok : Pure E 149 checkF := Pure.of_sig (rs := [.tmp 2]) (n := 45) Tryz.func149 rfl rfl rfl (Nat.le_of_ble_eq_true rfl) (by
 intro (l : List Nat) hds
 refine st0 ?_
 refine rg ΦM_ok [0] trivial ?_
 refine rdB (n := 42) ΦM_ok [44] trivial fun L hL => ?_
 repeat' first | (refine lfd hL trivial ?_; clear hL L) | with_reducible apply And.intro | refine sA trivial (fun _ => ?_) fun _ => ?_ | refine sAb trivial (fun _ => ?_) fun _ => ?_ | refine sAl trivial (fun g => ?_) fun g => ?_ | exact sd | exact sde trivial | exact sdp trivial | refine stk trivial ?_ | fail
 all_goals
  refine cn ?_ ?_
  ·intro h; try exact nd h
   all_goals
    refine rg ΦM_ok [2] trivial ?_
    refine fi trivial ?_
    first | (rw [may_yes l (by omega)]; rfl) | (rw [may_no l (by omega)]; rfl)
  ·intro h; try exact nd h
   all_goals
    refine rg ΦM_ok [2] trivial ?_
    refine fi trivial ?_
    first | (rw [may_yes l (by omega)]; rfl) | (rw [may_no l (by omega)]; rfl))
end Go.Proofs.YtpajpkbipagjpaaGreatDoor.Oc
namespace Go.Proofs
open Go.Shelf
def Tryz.lays156_ren : Go.Shelf.Ren := ⟨fun | 156 => 157 | 165 => 207 | 166 => 208 | 169 => 144 | 240 => 194 | 241 => 249 | 276 => 234 | 277 => 290 | n => n, fun | 31 => 111 | 9 => 9 | 3 => 3 | 4 => 4 | 0 => 0 | 20 => 20 | 72 => 196 | 76 => 259 | 70 => 194 | 37 => 22 | 75 => 198 | 127 => 246 | 164 => 285 | 5 => 5 | 80 => 200 | n => n, fun | n => n⟩
theorem Tryz.lays156 : Go.Proofs.Lays.n156 Tryz.prog Tryz.lays156_ren := {
 mixed := by kernel_rfl
 f156 := Tryz.func157.trans (congrArg some (by kernel_rfl))
 f165 := Tryz.func207.trans (congrArg some (by kernel_rfl))
 f166 := Tryz.func208.trans (congrArg some (by kernel_rfl))
 f169 := Tryz.func144.trans (congrArg some (by kernel_rfl))
 f240 := Tryz.func194.trans (congrArg some (by kernel_rfl))
 f241 := Tryz.func249.trans (congrArg some (by kernel_rfl))
 f276 := Tryz.func234.trans (congrArg some (by kernel_rfl))
 f277 := Tryz.func290.trans (congrArg some (by kernel_rfl))
 t0 := Tryz.underlying0
 a0 := Tryz.isAgg0
 z0 := Tryz.sizeOf0
 v0 := Tryz.zeroValue0
 t3 := Tryz.underlying3
 a3 := Tryz.isAgg3
 z3 := Tryz.sizeOf3
 v3 := Tryz.zeroValue3
 t4 := Tryz.underlying4
 a4 := Tryz.isAgg4
 z4 := Tryz.sizeOf4
 v4 := Tryz.zeroValue4
 t9 := Tryz.underlying9
 a9 := Tryz.isAgg9
 z9 := Tryz.sizeOf9
 v9 := Tryz.zeroValue9
 t20 := Tryz.underlying20
 a20 := Tryz.isAgg20
 z20 := Tryz.sizeOf20
 v20 := Tryz.zeroValue20
 t31 := Tryz.underlying111
 a31 := Tryz.isAgg111
 z31 := Tryz.sizeOf111
 v31 := Tryz.zeroValue111
 t37 := Tryz.underlying22
 a37 := Tryz.isAgg22
 z37 := Tryz.sizeOf22
 v37 := Tryz.zeroValue22
 t70 := Tryz.underlying194
 a70 := Tryz.isAgg194
 z70 := Tryz.sizeOf194
 v70 := Tryz.zeroValue194
 t72 := Tryz.underlying196
 a72 := Tryz.isAgg196
 z72 := Tryz.sizeOf196
 v72 := Tryz.zeroValue196
 t75 := Tryz.underlying198
 a75 := Tryz.isAgg198
 z75 := Tryz.sizeOf198
 v75 := Tryz.zeroValue198
 t76 := Tryz.underlying259
 a76 := Tryz.isAgg259
 z76 := Tryz.sizeOf259
 v76 := Tryz.zeroValue259
 t127 := Tryz.underlying246
 a127 := Tryz.isAgg246
 z127 := Tryz.sizeOf246
 v127 := Tryz.zeroValue246
 t164 := Tryz.underlying285
 a164 := Tryz.isAgg285
 z164 := Tryz.sizeOf285
 v164 := Tryz.zeroValue285 }
theorem Tryz.Builder_Extra_156 : Builder.Extra Tryz.prog Tryz.lays156_ren := {
 sizeBuilder := by kernel_rfl
 liesBuilder := by kernel_rfl
 t5 := Tryz.underlying5
 a5 := Tryz.isAgg5
 z5 := Tryz.sizeOf5
 v5 := Tryz.zeroValue5
 infoByte := by kernel_rfl
 cellsByte := by kernel_rfl
 sizeByte := by kernel_rfl
 neB5 := by decide }
open Go.RowKit in
theorem Tryz.strings_Join_none (a : Option Addr) (c : Nat) (sep : ByteArray) (w : World) :
 Calls Tryz.prog 157 #[.slice a 0 c, .string sep] w fun e w' => e = .returned (.string ⟨#[]⟩) ∧ w' = w := Any.strings_Join_none Tryz.lays156 Tryz.Builder_Extra_156 a c sep w
open Go.RowKit in
theorem Tryz.strings_Join (bk o c : Nat) (xs : List ByteArray) (sep : ByteArray) (w : World) (hcells : ∀ (j : Nat) x, xs[j]? = some x → w.cell? ⟨bk, o + j, none⟩ = some (.string x)) (hbk : bk < w.heap.size) (hN : xs.length ≤ 140737488355328) (hcap : xs.length ≤ c) (hlen : (Lib.join (xs.map (·.data.toList)) sep.data.toList).length ≤ 140737488355328) :
 Calls Tryz.prog 157 #[.slice (some ⟨bk, o, none⟩) xs.length c, .string sep] w fun e w' => e = .returned (.string ⟨(Lib.join (xs.map (·.data.toList)) sep.data.toList).toArray⟩) ∧ Below w.heap.size w w' := Any.strings_Join Tryz.lays156 Tryz.Builder_Extra_156 bk o c xs sep w hcells hbk hN hcap hlen
def Tryz.lays283_ren : Go.Shelf.Ren := ⟨fun | 283 => 244 | n => n, fun | 3 => 3 | 9 => 9 | 4 => 4 | n => n, fun | n => n⟩
theorem Tryz.lays283 : Go.Proofs.Lays.n283 Tryz.prog Tryz.lays283_ren := {
 mixed := by kernel_rfl
 f283 := Tryz.func244.trans (congrArg some (by kernel_rfl))
 t3 := Tryz.underlying3
 a3 := Tryz.isAgg3
 z3 := Tryz.sizeOf3
 v3 := Tryz.zeroValue3
 t4 := Tryz.underlying4
 a4 := Tryz.isAgg4
 z4 := Tryz.sizeOf4
 v4 := Tryz.zeroValue4
 t9 := Tryz.underlying9
 a9 := Tryz.isAgg9
 z9 := Tryz.sizeOf9
 v9 := Tryz.zeroValue9 }
open Go.Lib in
theorem Tryz.internal_strconv_small (i : Nat) (h : i < 100) (w : World) :
 Calls Tryz.prog 244 #[.int .i64 i] w fun e w' => e = .returned (.string ⟨(Lib.decDigits i).toArray⟩) ∧ w' = w := Any.internal_strconv_small Tryz.lays283 i h w
def Tryz.laysM284_ren : Go.Shelf.Ren := ⟨fun | 284 => 245 | 129 => 285 | 317 => 284 | 318 => 286 | n => n, fun | 53 => 158 | 3 => 3 | 212 => 323 | 0 => 0 | 4 => 4 | 46 => 157 | 5 => 5 | 9 => 9 | n => n, fun | 17 => 5 | n => n⟩
theorem Tryz.laysM284 : Go.Proofs.LaysM.n284 Tryz.prog Tryz.laysM284_ren := {
 mixed := by kernel_rfl
 f129 := Tryz.func285.trans (congrArg some (by kernel_rfl))
 f284 := Tryz.func245.trans (congrArg some (by kernel_rfl))
 f317 := Tryz.func284.trans (congrArg some (by kernel_rfl))
 f318 := Tryz.func286.trans (congrArg some (by kernel_rfl))
 t0 := Tryz.underlying0
 a0 := Tryz.isAgg0
 z0 := Tryz.sizeOf0
 v0 := Tryz.zeroValue0
 t3 := Tryz.underlying3
 a3 := Tryz.isAgg3
 z3 := Tryz.sizeOf3
 v3 := Tryz.zeroValue3
 t4 := Tryz.underlying4
 a4 := Tryz.isAgg4
 z4 := Tryz.sizeOf4
 v4 := Tryz.zeroValue4
 t5 := Tryz.underlying5
 a5 := Tryz.isAgg5
 z5 := Tryz.sizeOf5
 v5 := Tryz.zeroValue5
 t9 := Tryz.underlying9
 a9 := Tryz.isAgg9
 z9 := Tryz.sizeOf9
 v9 := Tryz.zeroValue9
 t46 := Tryz.underlying157
 a46 := Tryz.isAgg157
 z46 := Tryz.sizeOf157
 v46 := Tryz.zeroValue157
 t53 := Tryz.underlying158
 a53 := Tryz.isAgg158
 z53 := Tryz.sizeOf158
 v53 := Tryz.zeroValue158
 t212 := Tryz.underlying323
 a212 := Tryz.isAgg323
 z212 := Tryz.sizeOf323
 v212 := Tryz.zeroValue323
 g17 := by kernel_rfl
 i0 := by kernel_rfl
 i3 := by kernel_rfl
 i4 := by kernel_rfl
 i5 := by kernel_rfl
 i9 := by kernel_rfl
 i46 := by kernel_rfl
 i53 := by kernel_rfl
 i212 := by kernel_rfl
 m17 := by kernel_rfl }
def Tryz.lays285_ren : Go.Shelf.Ren := ⟨fun | 285 => 246 | n => n, fun | 37 => 22 | 53 => 158 | 3 => 3 | 4 => 4 | 51 => 324 | 9 => 9 | 5 => 5 | 0 => 0 | n => n, fun | n => n⟩
theorem Tryz.lays285 : Go.Proofs.Lays.n285 Tryz.prog Tryz.lays285_ren := {
 mixed := by kernel_rfl
 f285 := Tryz.func246.trans (congrArg some (by kernel_rfl))
 t0 := Tryz.underlying0
 a0 := Tryz.isAgg0
 z0 := Tryz.sizeOf0
 v0 := Tryz.zeroValue0
 t3 := Tryz.underlying3
 a3 := Tryz.isAgg3
 z3 := Tryz.sizeOf3
 v3 := Tryz.zeroValue3
 t4 := Tryz.underlying4
 a4 := Tryz.isAgg4
 z4 := Tryz.sizeOf4
 v4 := Tryz.zeroValue4
 t5 := Tryz.underlying5
 a5 := Tryz.isAgg5
 z5 := Tryz.sizeOf5
 v5 := Tryz.zeroValue5
 t9 := Tryz.underlying9
 a9 := Tryz.isAgg9
 z9 := Tryz.sizeOf9
 v9 := Tryz.zeroValue9
 t37 := Tryz.underlying22
 a37 := Tryz.isAgg22
 z37 := Tryz.sizeOf22
 v37 := Tryz.zeroValue22
 t51 := Tryz.underlying324
 a51 := Tryz.isAgg324
 z51 := Tryz.sizeOf324
 v51 := Tryz.zeroValue324
 t53 := Tryz.underlying158
 a53 := Tryz.isAgg158
 z53 := Tryz.sizeOf158
 v53 := Tryz.zeroValue158 }
open Go.RowKit Go.Sort Go.Lib in
theorem Tryz.internal_strconv_formatBase10 (blk off cap : Nat) (u : Nat) (d : Array UInt8) (w : World) (hH : Holds (fun (b : UInt8) => Value.int .u8 (b.toNat : Int)) w blk off d) (hu : u < 10 ^ d.size) (hu64 : u < 18446744073709551616) (hsz : d.size < 4611686018427387904) :
 Calls Tryz.prog 246 #[.slice (some ⟨blk, off, none⟩) d.size cap, .int .u64 u] w fun e w' =>
  e = .returned (.tuple #[]) ∧ ∃ (n v' : Nat) (dk : Array UInt8), w' = (putRow (fun (b : UInt8) => Value.int .u8 (b.toNat : Int)) w blk off dk).drewN n ∧ FmtInv d.size u 0 v' dk := Any.internal_strconv_formatBase10 Tryz.lays285 blk off cap u d w hH hu hu64 hsz
def Tryz.laysM171_ren : Go.Shelf.Ren := ⟨fun | 171 => 108 | 243 => 151 | 246 => 200 | 283 => 244 | 284 => 245 | 285 => 246 | 286 => 247 | 129 => 285 | 317 => 284 | 318 => 286 | 319 => 287 | 320 => 288 | 337 => 329 | 338 => 330 | n => n, fun | 3 => 3 | 9 => 9 | 2 => 2 | 4 => 4 | 171 => 296 | 0 => 0 | 53 => 158 | 37 => 22 | 5 => 5 | 173 => 299 | 212 => 323 | 51 => 324 | 20 => 20 | 213 => 325 | 46 => 157 | 232 => 361 | 233 => 362 | n => n, fun | 17 => 5 | 18 => 9 | 19 => 10 | n => n⟩
theorem Tryz.laysM171 : Go.Proofs.LaysM.n171 Tryz.prog Tryz.laysM171_ren := {
 mixed := by kernel_rfl
 f129 := Tryz.func285.trans (congrArg some (by kernel_rfl))
 f171 := Tryz.func108.trans (congrArg some (by kernel_rfl))
 f243 := Tryz.func151.trans (congrArg some (by kernel_rfl))
 f246 := Tryz.func200.trans (congrArg some (by kernel_rfl))
 f283 := Tryz.func244.trans (congrArg some (by kernel_rfl))
 f284 := Tryz.func245.trans (congrArg some (by kernel_rfl))
 f285 := Tryz.func246.trans (congrArg some (by kernel_rfl))
 f286 := Tryz.func247.trans (congrArg some (by kernel_rfl))
 f317 := Tryz.func284.trans (congrArg some (by kernel_rfl))
 f318 := Tryz.func286.trans (congrArg some (by kernel_rfl))
 f319 := Tryz.func287.trans (congrArg some (by kernel_rfl))
 f320 := Tryz.func288.trans (congrArg some (by kernel_rfl))
 f337 := Tryz.func329.trans (congrArg some (by kernel_rfl))
 f338 := Tryz.func330.trans (congrArg some (by kernel_rfl))
 t0 := Tryz.underlying0
 a0 := Tryz.isAgg0
 z0 := Tryz.sizeOf0
 v0 := Tryz.zeroValue0
 t2 := Tryz.underlying2
 a2 := Tryz.isAgg2
 z2 := Tryz.sizeOf2
 v2 := Tryz.zeroValue2
 t3 := Tryz.underlying3
 a3 := Tryz.isAgg3
 z3 := Tryz.sizeOf3
 v3 := Tryz.zeroValue3
 t4 := Tryz.underlying4
 a4 := Tryz.isAgg4
 z4 := Tryz.sizeOf4
 v4 := Tryz.zeroValue4
 t5 := Tryz.underlying5
 a5 := Tryz.isAgg5
 z5 := Tryz.sizeOf5
 v5 := Tryz.zeroValue5
 t9 := Tryz.underlying9
 a9 := Tryz.isAgg9
 z9 := Tryz.sizeOf9
 v9 := Tryz.zeroValue9
 t20 := Tryz.underlying20
 a20 := Tryz.isAgg20
 z20 := Tryz.sizeOf20
 v20 := Tryz.zeroValue20
 t37 := Tryz.underlying22
 a37 := Tryz.isAgg22
 z37 := Tryz.sizeOf22
 v37 := Tryz.zeroValue22
 t46 := Tryz.underlying157
 a46 := Tryz.isAgg157
 z46 := Tryz.sizeOf157
 v46 := Tryz.zeroValue157
 t51 := Tryz.underlying324
 a51 := Tryz.isAgg324
 z51 := Tryz.sizeOf324
 v51 := Tryz.zeroValue324
 t53 := Tryz.underlying158
 a53 := Tryz.isAgg158
 z53 := Tryz.sizeOf158
 v53 := Tryz.zeroValue158
 t171 := Tryz.underlying296
 a171 := Tryz.isAgg296
 z171 := Tryz.sizeOf296
 v171 := Tryz.zeroValue296
 t173 := Tryz.underlying299
 a173 := Tryz.isAgg299
 z173 := Tryz.sizeOf299
 v173 := Tryz.zeroValue299
 t212 := Tryz.underlying323
 a212 := Tryz.isAgg323
 z212 := Tryz.sizeOf323
 v212 := Tryz.zeroValue323
 t213 := Tryz.underlying325
 a213 := Tryz.isAgg325
 z213 := Tryz.sizeOf325
 t232 := Tryz.underlying361
 a232 := Tryz.isAgg361
 z232 := Tryz.sizeOf361
 v232 := Tryz.zeroValue361
 t233 := Tryz.underlying362
 a233 := Tryz.isAgg362
 z233 := Tryz.sizeOf362
 v233 := Tryz.zeroValue362
 g17 := by kernel_rfl
 g18 := by kernel_rfl
 g19 := by kernel_rfl
 i0 := by kernel_rfl
 i2 := by kernel_rfl
 i3 := by kernel_rfl
 i4 := by kernel_rfl
 i5 := by kernel_rfl
 i9 := by kernel_rfl
 i20 := by kernel_rfl
 i37 := by kernel_rfl
 i46 := by kernel_rfl
 i51 := by kernel_rfl
 i53 := by kernel_rfl
 i171 := by kernel_rfl
 i173 := by kernel_rfl
 i212 := by kernel_rfl
 i232 := by kernel_rfl
 i233 := by kernel_rfl
 m17 := by kernel_rfl
 m18 := by kernel_rfl
 m19 := by kernel_rfl }
def Tryz.laysC245_ren : Go.Shelf.Ren := ⟨fun | 245 => 197 | 279 => 240 | 280 => 241 | 281 => 242 | 282 => 243 | 316 => 282 | 171 => 108 | 205 => 283 | 243 => 151 | 246 => 200 | 283 => 244 | 284 => 245 | 285 => 246 | 286 => 247 | 129 => 285 | 317 => 284 | 318 => 286 | 319 => 287 | 320 => 288 | 337 => 329 | 338 => 330 | n => n, fun | 9 => 9 | 3 => 3 | 75 => 198 | 167 => 291 | 4 => 4 | 168 => 293 | 210 => 320 | 37 => 22 | 0 => 0 | 127 => 246 | 145 => 353 | 143 => 351 | 2 => 2 | 171 => 296 | 53 => 158 | 5 => 5 | 173 => 299 | 212 => 323 | 51 => 324 | 20 => 20 | 213 => 325 | 46 => 157 | 232 => 361 | 233 => 362 | 80 => 200 | n => n, fun | 15 => 3 | 16 => 4 | 17 => 5 | 18 => 9 | 19 => 10 | n => n⟩
theorem Tryz.laysC245 : Go.Proofs.LaysC.n245 Tryz.prog Tryz.laysC245_ren := {
 mixed := by kernel_rfl
 f129 := Tryz.func285.trans (congrArg some (by kernel_rfl))
 f171 := Tryz.func108.trans (congrArg some (by kernel_rfl))
 f205 := Tryz.func283.trans (congrArg some (by kernel_rfl))
 f243 := Tryz.func151.trans (congrArg some (by kernel_rfl))
 f245 := Tryz.func197.trans (congrArg some (by kernel_rfl))
 f246 := Tryz.func200.trans (congrArg some (by kernel_rfl))
 f279 := Tryz.func240.trans (congrArg some (by kernel_rfl))
 f280 := Tryz.func241.trans (congrArg some (by kernel_rfl))
 f281 := Tryz.func242.trans (congrArg some (by kernel_rfl))
 f282 := Tryz.func243.trans (congrArg some (by kernel_rfl))
 f283 := Tryz.func244.trans (congrArg some (by kernel_rfl))
 f284 := Tryz.func245.trans (congrArg some (by kernel_rfl))
 f285 := Tryz.func246.trans (congrArg some (by kernel_rfl))
 f286 := Tryz.func247.trans (congrArg some (by kernel_rfl))
 f316 := Tryz.func282.trans (congrArg some (by kernel_rfl))
 f317 := Tryz.func284.trans (congrArg some (by kernel_rfl))
 f318 := Tryz.func286.trans (congrArg some (by kernel_rfl))
 f319 := Tryz.func287.trans (congrArg some (by kernel_rfl))
 f320 := Tryz.func288.trans (congrArg some (by kernel_rfl))
 f337 := Tryz.func329.trans (congrArg some (by kernel_rfl))
 f338 := Tryz.func330.trans (congrArg some (by kernel_rfl))
 t0 := Tryz.underlying0
 a0 := Tryz.isAgg0
 z0 := Tryz.sizeOf0
 v0 := Tryz.zeroValue0
 t2 := Tryz.underlying2
 a2 := Tryz.isAgg2
 z2 := Tryz.sizeOf2
 v2 := Tryz.zeroValue2
 t3 := Tryz.underlying3
 a3 := Tryz.isAgg3
 z3 := Tryz.sizeOf3
 v3 := Tryz.zeroValue3
 t4 := Tryz.underlying4
 a4 := Tryz.isAgg4
 z4 := Tryz.sizeOf4
 v4 := Tryz.zeroValue4
 t5 := Tryz.underlying5
 a5 := Tryz.isAgg5
 z5 := Tryz.sizeOf5
 v5 := Tryz.zeroValue5
 t9 := Tryz.underlying9
 a9 := Tryz.isAgg9
 z9 := Tryz.sizeOf9
 v9 := Tryz.zeroValue9
 t20 := Tryz.underlying20
 a20 := Tryz.isAgg20
 z20 := Tryz.sizeOf20
 v20 := Tryz.zeroValue20
 t37 := Tryz.underlying22
 a37 := Tryz.isAgg22
 z37 := Tryz.sizeOf22
 v37 := Tryz.zeroValue22
 t46 := Tryz.underlying157
 a46 := Tryz.isAgg157
 z46 := Tryz.sizeOf157
 v46 := Tryz.zeroValue157
 t51 := Tryz.underlying324
 a51 := Tryz.isAgg324
 z51 := Tryz.sizeOf324
 v51 := Tryz.zeroValue324
 t53 := Tryz.underlying158
 a53 := Tryz.isAgg158
 z53 := Tryz.sizeOf158
 v53 := Tryz.zeroValue158
 t75 := Tryz.underlying198
 a75 := Tryz.isAgg198
 z75 := Tryz.sizeOf198
 v75 := Tryz.zeroValue198
 t127 := Tryz.underlying246
 a127 := Tryz.isAgg246
 z127 := Tryz.sizeOf246
 v127 := Tryz.zeroValue246
 t143 := Tryz.underlying351
 a143 := Tryz.isAgg351
 z143 := Tryz.sizeOf351
 v143 := Tryz.zeroValue351
 t145 := Tryz.underlying353
 a145 := Tryz.isAgg353
 z145 := Tryz.sizeOf353
 v145 := Tryz.zeroValue353
 t167 := Tryz.underlying291
 a167 := Tryz.isAgg291
 z167 := Tryz.sizeOf291
 v167 := Tryz.zeroValue291
 t168 := Tryz.underlying293
 a168 := Tryz.isAgg293
 z168 := Tryz.sizeOf293
 v168 := Tryz.zeroValue293
 t171 := Tryz.underlying296
 a171 := Tryz.isAgg296
 z171 := Tryz.sizeOf296
 v171 := Tryz.zeroValue296
 t173 := Tryz.underlying299
 a173 := Tryz.isAgg299
 z173 := Tryz.sizeOf299
 v173 := Tryz.zeroValue299
 t210 := Tryz.underlying320
 a210 := Tryz.isAgg320
 z210 := Tryz.sizeOf320
 v210 := Tryz.zeroValue320
 t212 := Tryz.underlying323
 a212 := Tryz.isAgg323
 z212 := Tryz.sizeOf323
 v212 := Tryz.zeroValue323
 t213 := Tryz.underlying325
 a213 := Tryz.isAgg325
 z213 := Tryz.sizeOf325
 t232 := Tryz.underlying361
 a232 := Tryz.isAgg361
 z232 := Tryz.sizeOf361
 v232 := Tryz.zeroValue361
 t233 := Tryz.underlying362
 a233 := Tryz.isAgg362
 z233 := Tryz.sizeOf362
 v233 := Tryz.zeroValue362
 g15 := by kernel_rfl
 g16 := by kernel_rfl
 g17 := by kernel_rfl
 g18 := by kernel_rfl
 g19 := by kernel_rfl
 t80 := Tryz.underlying200
 a80 := Tryz.isAgg200
 z80 := Tryz.sizeOf200
 v80 := Tryz.zeroValue200
 i0 := by kernel_rfl
 i2 := by kernel_rfl
 i3 := by kernel_rfl
 i4 := by kernel_rfl
 i5 := by kernel_rfl
 i9 := by kernel_rfl
 i20 := by kernel_rfl
 i37 := by kernel_rfl
 i46 := by kernel_rfl
 i51 := by kernel_rfl
 i53 := by kernel_rfl
 i75 := by kernel_rfl
 i80 := by kernel_rfl
 i127 := by kernel_rfl
 i143 := by kernel_rfl
 i145 := by kernel_rfl
 i167 := by kernel_rfl
 i168 := by kernel_rfl
 i171 := by kernel_rfl
 i173 := by kernel_rfl
 i210 := by kernel_rfl
 i212 := by kernel_rfl
 i232 := by kernel_rfl
 i233 := by kernel_rfl
 m15 := by kernel_rfl
 m16 := by kernel_rfl
 m17 := by kernel_rfl
 m18 := by kernel_rfl
 m19 := by kernel_rfl
 c0 := by kernel_rfl
 c2 := by kernel_rfl
 c3 := by kernel_rfl
 c4 := by kernel_rfl
 c5 := by kernel_rfl
 c9 := by kernel_rfl
 c20 := by kernel_rfl
 c37 := by kernel_rfl
 c46 := by kernel_rfl
 c51 := by kernel_rfl
 c53 := by kernel_rfl
 c75 := by kernel_rfl
 c80 := by kernel_rfl
 c127 := by kernel_rfl
 c143 := by kernel_rfl
 c145 := by kernel_rfl
 c167 := by kernel_rfl
 c168 := by kernel_rfl
 c171 := by kernel_rfl
 c173 := by kernel_rfl
 c210 := by kernel_rfl
 c212 := by kernel_rfl
 c213 := by kernel_rfl
 c232 := by kernel_rfl
 c233 := by kernel_rfl }
open Go.RowKit in
theorem Tryz.strconv_toError_syntax (fn s : ByteArray) (base bits : Int) (ev : Value) (w : World) (hlim : s.size ≤ 281474976710656) (hv : w.cell? ⟨3, 0, none⟩ = some ev) (hev : ev = .nilIface ∨ ∃ te pe, ev = .iface te pe) :
 Calls Tryz.prog 197 #[.string fn, .string s, .int .i64 base, .int .i64 bits, .iface 291 (.int .i64 2)] w fun e w' => ∃ N, e = .returned (.iface 293 (.pointer (some ⟨N, 0, none⟩))) ∧ w.heap.size ≤ N ∧ w'.heap[N]? = some (.cells #[.string fn, .string s, ev] 320 (0, 0)) ∧ Below w.heap.size w w' := Any.strconv_toError_syntax Tryz.laysC245 fn s base bits ev w hlim hv hev
def Tryz.lays287_ren : Go.Shelf.Ren := ⟨fun | 287 => 196 | 321 => 238 | 322 => 239 | n => n, fun | 9 => 9 | 3 => 3 | 53 => 158 | 75 => 198 | 4 => 4 | 167 => 291 | 5 => 5 | 46 => 157 | 37 => 22 | 0 => 0 | 21 => 21 | 80 => 200 | n => n, fun | n => n⟩
theorem Tryz.lays287 : Go.Proofs.Lays.n287 Tryz.prog Tryz.lays287_ren := {
 mixed := by kernel_rfl
 f287 := Tryz.func196.trans (congrArg some (by kernel_rfl))
 f321 := Tryz.func238.trans (congrArg some (by kernel_rfl))
 f322 := Tryz.func239.trans (congrArg some (by kernel_rfl))
 t0 := Tryz.underlying0
 a0 := Tryz.isAgg0
 z0 := Tryz.sizeOf0
 v0 := Tryz.zeroValue0
 t3 := Tryz.underlying3
 a3 := Tryz.isAgg3
 z3 := Tryz.sizeOf3
 v3 := Tryz.zeroValue3
 t4 := Tryz.underlying4
 a4 := Tryz.isAgg4
 z4 := Tryz.sizeOf4
 v4 := Tryz.zeroValue4
 t5 := Tryz.underlying5
 a5 := Tryz.isAgg5
 z5 := Tryz.sizeOf5
 v5 := Tryz.zeroValue5
 t9 := Tryz.underlying9
 a9 := Tryz.isAgg9
 z9 := Tryz.sizeOf9
 v9 := Tryz.zeroValue9
 t21 := Tryz.underlying21
 a21 := Tryz.isAgg21
 z21 := Tryz.sizeOf21
 v21 := Tryz.zeroValue21
 t37 := Tryz.underlying22
 a37 := Tryz.isAgg22
 z37 := Tryz.sizeOf22
 v37 := Tryz.zeroValue22
 t46 := Tryz.underlying157
 a46 := Tryz.isAgg157
 z46 := Tryz.sizeOf157
 v46 := Tryz.zeroValue157
 t53 := Tryz.underlying158
 a53 := Tryz.isAgg158
 z53 := Tryz.sizeOf158
 v53 := Tryz.zeroValue158
 t75 := Tryz.underlying198
 a75 := Tryz.isAgg198
 z75 := Tryz.sizeOf198
 v75 := Tryz.zeroValue198
 t167 := Tryz.underlying291
 a167 := Tryz.isAgg291
 z167 := Tryz.sizeOf291
 v167 := Tryz.zeroValue291 }
open Go.RowKit in
theorem Tryz.strconv_toError_range (fn s : ByteArray) (base bits : Int) (ev : Value) (w : World) (hlim : s.size ≤ 281474976710656) (hv : w.cell? ⟨4, 0, none⟩ = some ev) (hev : ev = .nilIface ∨ ∃ te pe, ev = .iface te pe) :
 Calls Tryz.prog 197 #[.string fn, .string s, .int .i64 base, .int .i64 bits, .iface 291 (.int .i64 1)] w fun e w' => ∃ N, e = .returned (.iface 293 (.pointer (some ⟨N, 0, none⟩))) ∧ w.heap.size ≤ N ∧ w'.heap[N]? = some (.cells #[.string fn, .string s, ev] 320 (0, 0)) ∧ Below w.heap.size w w' := Any.strconv_toError_range Tryz.laysC245 fn s base bits ev w hlim hv hev
def Tryz.lays143_ren : Go.Shelf.Ren := ⟨fun | 143 => 237 | 219 => 281 | 217 => 325 | 225 => 326 | 224 => 327 | 267 => 328 | 266 => 345 | 314 => 346 | n => n, fun | 9 => 9 | 3 => 3 | 4 => 4 | 5 => 5 | 46 => 157 | 146 => 335 | 51 => 324 | n => n, fun | 1 => 8 | n => n⟩
theorem Tryz.lays143 : Go.Proofs.Lays.n143 Tryz.prog Tryz.lays143_ren := {
 mixed := by kernel_rfl
 f143 := Tryz.func237.trans (congrArg some (by kernel_rfl))
 f217 := Tryz.func325.trans (congrArg some (by kernel_rfl))
 f219 := Tryz.func281.trans (congrArg some (by kernel_rfl))
 f224 := Tryz.func327.trans (congrArg some (by kernel_rfl))
 f225 := Tryz.func326.trans (congrArg some (by kernel_rfl))
 f266 := Tryz.func345.trans (congrArg some (by kernel_rfl))
 f267 := Tryz.func328.trans (congrArg some (by kernel_rfl))
 f314 := Tryz.func346.trans (congrArg some (by kernel_rfl))
 t3 := Tryz.underlying3
 a3 := Tryz.isAgg3
 z3 := Tryz.sizeOf3
 v3 := Tryz.zeroValue3
 t4 := Tryz.underlying4
 a4 := Tryz.isAgg4
 z4 := Tryz.sizeOf4
 v4 := Tryz.zeroValue4
 t5 := Tryz.underlying5
 a5 := Tryz.isAgg5
 z5 := Tryz.sizeOf5
 v5 := Tryz.zeroValue5
 t9 := Tryz.underlying9
 a9 := Tryz.isAgg9
 z9 := Tryz.sizeOf9
 v9 := Tryz.zeroValue9
 t46 := Tryz.underlying157
 a46 := Tryz.isAgg157
 z46 := Tryz.sizeOf157
 v46 := Tryz.zeroValue157
 t51 := Tryz.underlying324
 a51 := Tryz.isAgg324
 z51 := Tryz.sizeOf324
 v51 := Tryz.zeroValue324
 t146 := Tryz.underlying335
 a146 := Tryz.isAgg335
 z146 := Tryz.sizeOf335
 v146 := Tryz.zeroValue335
 g1 := by kernel_rfl }
open Go.RowKit Go.Lib in
theorem Tryz.strings_Index_one (s : ByteArray) (c : UInt8) (w : World) :
 Calls Tryz.prog 237 #[.string s, .string ⟨#[c]⟩] w fun e w' => e = .returned (.int .i64 (Lib.indexByte s.data.toList c)) ∧ w' = w := Any.strings_Index_one Tryz.lays143 s c w
end Go.Proofs
namespace Go.Proofs
open Go.Shelf Go.RowKit
variable {P : Program} {ρ : Ren}
set_option maxHeartbeats 2000000 in
set_option maxRecDepth 100000 in
theorem Any.internal_strconv_numDigits_cells (L : LaysM.n284 P ρ) (u : Nat) (h1 : 1 ≤ u) (h2 : u < 18446744073709551616) (w : World)
 (htab : ∀ j, j < 20 → w.cell? ⟨(ρ.g 17), j, none⟩ = some (.int .u64 ((10 ^ j : Nat) : Int))) :
 Calls P (ρ.f 284) #[.int .u64 u] w fun e w' => e = .returned (.int .i64 (Lib.nDigits u)) ∧ w' = w := by
 have mixed := L.mixed
 have t53 := L.t53; have a53 := L.a53; have z53 := L.z53; have v53 := L.v53
 have t3 := L.t3; have a3 := L.a3; have z3 := L.z3; have v3 := L.v3
 have t212 := L.t212; have a212 := L.a212; have z212 := L.z212; have v212 := L.v212
 have t0 := L.t0; have a0 := L.a0; have z0 := L.z0; have v0 := L.v0
 have t4 := L.t4; have a4 := L.a4; have z4 := L.z4; have v4 := L.v4
 have e129 : ∀ args w, (callFunc (ρ.f 129) args).run P w = .ok (.enter (ρ.f 129) args) w := enters_of L.f129 (by kernel_rfl) rfl
 have e317 : ∀ args w, (callFunc (ρ.f 317) args).run P w = .ok (.enter (ρ.f 317) args) w := enters_of L.f317 (by kernel_rfl) rfl
 have e318 : ∀ args w, (callFunc (ρ.f 318) args).run P w = .ok (.enter (ρ.f 318) args) w := enters_of L.f318 (by kernel_rfl) rfl
 obtain ⟨hnd, h19⟩ := Lib.numDigits_eq u h1 h2
 have hL : Lib.bitLen u ≤ 64 := Lib.bitLen_le u 64 (Nat.le_refl _) h2
 have hcell : w.cell? ⟨(ρ.g 17), Lib.l10 (Lib.bitLen u), none⟩ = some (.int .u64 ((10 ^ Lib.l10 (Lib.bitLen u) : Nat) : Int)) := by
  rw [htab _ (by omega)]
 have hto : ((u : Int)).toNat = u := by omega
 generalize hq : Lib.l10 (Lib.bitLen u) = q at hnd h19 hcell
 generalize hT : 10 ^ q = T at hnd hcell
 have h20 : q < 20 := by omega
 have Hnd := Lib.hid hnd
 clear hnd htab
 go_enter L.f284, Body.n284_ntmps ρ
 go_wp2_with (first
  | (go_at_fn (ρ.f 129); refine (Any.bits_Len64 { L with } _ _ (by omega) (by omega)).mono ?_; rintro e w' ⟨rfl, rfl⟩)
  | (go_at_fn (ρ.f 317); refine (Any.internal_strconv_log10Pow2 { L with } _ (by first | exact hL | (rw [hto]; exact hL)) _).mono ?_; rintro e w' ⟨rfl, rfl⟩)
  | (go_at_fn (ρ.f 318); refine (Any.internal_strconv_bool2_int { L with } _ _).mono ?_; rintro e w' ⟨rfl, rfl⟩))
 all_goals go_ret
 all_goals (
  refine ⟨?_, rfl⟩
  have hnd := Hnd.out
  congr 2
  split at hnd <;> simp_all <;> omega)
end Go.Proofs
namespace Go.Proofs.YtpajpkbipagjpaaGreatDoor.Oc
open Go Go.Shelf Go.RowKit Go.Sort Go.Lib Go.Proofs
theorem LL.t0 : Tryz.prog.underlying 0 = some (TypeDesc.tuple #[]) := by kernel_rfl
theorem LL.a0 : ∀ w, (isAgg 0).run Tryz.prog w = .ok false w := fun w => by kernel_rfl
theorem LL.z0 : ∀ w, (Go.sizeOf 0).run Tryz.prog w = .ok 1 w := fun w => by kernel_rfl
theorem LL.v0 : ∀ w, (zeroValue 0).run Tryz.prog w = .ok (Value.tuple #[]) w := fun w => by kernel_rfl
theorem LL.t3 : Tryz.prog.underlying 3 = some (TypeDesc.int IntKind.i64) := by kernel_rfl
theorem LL.a3 : ∀ w, (isAgg 3).run Tryz.prog w = .ok false w := fun w => by kernel_rfl
theorem LL.z3 : ∀ w, (Go.sizeOf 3).run Tryz.prog w = .ok 1 w := fun w => by kernel_rfl
theorem LL.v3 : ∀ w, (zeroValue 3).run Tryz.prog w = .ok (Value.int IntKind.i64 0) w := fun w => by kernel_rfl
theorem LL.t4 : Tryz.prog.underlying 4 = some (TypeDesc.bool) := by kernel_rfl
theorem LL.a4 : ∀ w, (isAgg 4).run Tryz.prog w = .ok false w := fun w => by kernel_rfl
theorem LL.z4 : ∀ w, (Go.sizeOf 4).run Tryz.prog w = .ok 1 w := fun w => by kernel_rfl
theorem LL.v4 : ∀ w, (zeroValue 4).run Tryz.prog w = .ok (Value.bool false) w := fun w => by kernel_rfl
theorem LL.t9 : Tryz.prog.underlying 9 = some (TypeDesc.string) := by kernel_rfl
theorem LL.a9 : ∀ w, (isAgg 9).run Tryz.prog w = .ok false w := fun w => by kernel_rfl
theorem LL.z9 : ∀ w, (Go.sizeOf 9).run Tryz.prog w = .ok 1 w := fun w => by kernel_rfl
theorem LL.v9 : ∀ w, (zeroValue 9).run Tryz.prog w = .ok (Value.string ⟨#[]⟩) w := fun w => by kernel_rfl
theorem LL.t158 : Tryz.prog.underlying 158 = some (TypeDesc.int IntKind.u64) := by kernel_rfl
theorem LL.a158 : ∀ w, (isAgg 158).run Tryz.prog w = .ok false w := fun w => by kernel_rfl
theorem LL.z158 : ∀ w, (Go.sizeOf 158).run Tryz.prog w = .ok 1 w := fun w => by kernel_rfl
theorem LL.v158 : ∀ w, (zeroValue 158).run Tryz.prog w = .ok (Value.int IntKind.u64 0) w := fun w => by kernel_rfl
theorem LL.t22 : Tryz.prog.underlying 22 = some (TypeDesc.slice 5) := by kernel_rfl
theorem LL.a22 : ∀ w, (isAgg 22).run Tryz.prog w = .ok false w := fun w => by kernel_rfl
theorem LL.z22 : ∀ w, (Go.sizeOf 22).run Tryz.prog w = .ok 1 w := fun w => by kernel_rfl
theorem LL.v22 : ∀ w, (zeroValue 22).run Tryz.prog w = .ok (Value.slice none 0 0) w := fun w => by kernel_rfl
theorem LL.t5 : Tryz.prog.underlying 5 = some (TypeDesc.int IntKind.u8) := by kernel_rfl
theorem LL.a5 : ∀ w, (isAgg 5).run Tryz.prog w = .ok false w := fun w => by kernel_rfl
theorem LL.z5 : ∀ w, (Go.sizeOf 5).run Tryz.prog w = .ok 1 w := fun w => by kernel_rfl
theorem LL.v5 : ∀ w, (zeroValue 5).run Tryz.prog w = .ok (Value.int IntKind.u8 0) w := fun w => by kernel_rfl
theorem LL.t296 : Tryz.prog.underlying 296 = some (TypeDesc.array 24 5) := by kernel_rfl
theorem LL.a296 : ∀ w, (isAgg 296).run Tryz.prog w = .ok true w := fun w => by kernel_rfl
theorem LL.z296 : ∀ w, (Go.sizeOf 296).run Tryz.prog w = .ok 24 w := fun w => by kernel_rfl
theorem LL.v296 : ∀ w, (zeroValue 296).run Tryz.prog w = .ok (Value.agg Lib.zeros24) w := fun w => by kernel_rfl
theorem LL.mixed : Tryz.prog.follows .mixedOrders = true := by kernel_rfl
theorem numDigits_here (u : Nat) (h1 : 1 ≤ u) (h2 : u < 18446744073709551616) (w : World) (htab : ∀ j, j < 20 → w.cell? ⟨5, j, none⟩ = some (.int .u64 ((10 ^ j : Nat) : Int))) :
 Calls Tryz.prog 245 #[.int .u64 u] w fun e w' => e = .returned (.int .i64 (Lib.nDigits u)) ∧ w' = w := Any.internal_strconv_numDigits_cells Tryz.laysM284 u h1 h2 w htab
theorem holds_zero0 (w : World) (T : TypeId) (nd : Nat) (hs : nd ≤ 24) : Holds (fun (b : UInt8) => Value.int .u8 (b.toNat : Int)) (w.alloc (.cells Lib.zeros24 T)) w.heap.size 0 (Array.replicate nd (0 : UInt8)) := fun j hj => by
 have hj' : j < nd := by simpa using hj
 refine ⟨?_, World.frozen?_alloc_new _ _ _ _⟩
 rw [World.cell?_alloc_new, Lib.zeros24_at _ (by omega), getElem!_pos _ j hj]
 simp
theorem fin_pos0 (w : World) (o : Obj) (dk : Array UInt8) (k : Nat) : ∃ os, (putRow (fun (b : UInt8) => Value.int .u8 (b.toNat : Int)) (w.alloc o) w.heap.size 0 dk).drewN k = grow (w.drewN k) os := by
 rw [alloc_eq_grow]
 obtain ⟨os', _, e⟩ := putRow_grow_new (fun (b : UInt8) => Value.int .u8 (b.toNat : Int)) w #[o] w.heap.size 0 dk (Nat.le_refl _)
 exact ⟨os', by rw [e]; rfl⟩
set_option maxHeartbeats 6400000 in
set_option maxRecDepth 100000 in
theorem fmtUint (u : Nat) (hu64 : u < 18446744073709551616) (w : World) (htab : ∀ j, j < 20 → w.cell? ⟨5, j, none⟩ = some (.int .u64 ((10 ^ j : Nat) : Int))) (hg : 5 < w.heap.size) :
 Calls Tryz.prog 206 #[.int .u64 u, .int .i64 10] w fun e w' => e = .returned (.string ⟨(Lib.decDigits u).toArray⟩) ∧ ∃ k os, w' = grow (w.drewN k) os := by
 have mixed := LL.mixed
 have t0 := LL.t0; have a0 := LL.a0; have z0 := LL.z0; have v0 := LL.v0
 have t3 := LL.t3; have a3 := LL.a3; have z3 := LL.z3; have v3 := LL.v3
 have t4 := LL.t4; have a4 := LL.a4; have z4 := LL.z4; have v4 := LL.v4
 have t9 := LL.t9; have a9 := LL.a9; have z9 := LL.z9; have v9 := LL.v9
 have t158 := LL.t158; have a158 := LL.a158; have z158 := LL.z158; have v158 := LL.v158
 have t22 := LL.t22; have a22 := LL.a22; have z22 := LL.z22; have v22 := LL.v22
 have t5 := LL.t5; have a5 := LL.a5; have z5 := LL.z5; have v5 := LL.v5
 have t296 := LL.t296; have a296 := LL.a296; have z296 := LL.z296; have v296 := LL.v296
 have e244 : ∀ args w, (callFunc 244 args).run Tryz.prog w = .ok (.enter 244 args) w := enters_of Tryz.func244 (by kernel_rfl) rfl
 have e245 : ∀ args w, (callFunc 245 args).run Tryz.prog w = .ok (.enter 245 args) w := enters_of Tryz.func245 (by kernel_rfl) rfl
 have e246 : ∀ args w, (callFunc 246 args).run Tryz.prog w = .ok (.enter 246 args) w := enters_of Tryz.func246 (by kernel_rfl) rfl
 by_cases hs : u < 100
 ·go_enter Tryz.func206, Tryz.ntmps206
  go_wp2_with (go_at_fn 244; refine (Tryz.internal_strconv_small u hs _).mono ?_; rintro e w' ⟨rfl, rfl⟩)
  go_ret
  exact ⟨rfl, 0, #[], by simp [World.drewN_zero]⟩
 ·have hu1 : 1 ≤ u := by omega
  have hnd20 : Lib.nDigits u ≤ 20 := by have := Lib.numDigits_eq u hu1 hu64; split at this <;> omega
  have hb3 : Lib.nDigits u ≤ 24 := by omega
  have hal : Tryz.prog.arrayLen 296 = 24 := by simp [Program.arrayLen, LL.t296]
  have hsl1 : ∀ W, (Instr.sliceAt 296 (.pointer (some ⟨w.heap.size, 0, none⟩)) none (some (.int .i64 (Lib.nDigits u : Int))) none).run Tryz.prog W = .ok (.slice (some ⟨w.heap.size, 0, none⟩) (Lib.nDigits u) 24) W := fun W => by
   rw [run_sliceAt_array_h W 296 ⟨w.heap.size, 0, none⟩ (by simp [Program.arrayLen, Program.elem, LL.t296]) .i64 (Lib.nDigits u : Int) (by omega) (by rw [hal]; omega)]
   go_simp
  have hH0 := holds_zero0 w 296 (Lib.nDigits u) hb3
  have hfmt := Tryz.internal_strconv_formatBase10 w.heap.size 0 24 u (Array.replicate (Lib.nDigits u) 0) (w.alloc (.cells Lib.zeros24 296)) hH0 (by rw [Array.size_replicate]; exact Lib.lt_pow_nDigits u) hu64 (by rw [Array.size_replicate]; omega)
  rw [Array.size_replicate] at hfmt
  have HH0 := Lib.hid hH0
  clear hH0 hal
  have hnd := numDigits_here u hu1 hu64 (w.alloc (.cells Lib.zeros24 296)) (fun j hj => by rw [World.cell?_alloc_old _ _ _ (Nat.ne_of_lt hg)]; exact htab j hj)
  go_enter Tryz.func206, Tryz.ntmps206
  go_wp2_with (first
   | (go_at_fn 245; refine hnd.mono ?_; rintro e w' ⟨rfl, rfl⟩))
  go_at_fn 246
  refine hfmt.mono ?_
  rintro e w' ⟨rfl, k, v', dk, rfl, hF⟩
  have hcv : (convert 22 9 (.slice (some ⟨w.heap.size, 0, none⟩) (Lib.nDigits u) 24)).run Tryz.prog ((putRow (fun (b : UInt8) => Value.int .u8 (b.toNat : Int)) (w.alloc (.cells Lib.zeros24 296)) w.heap.size 0 dk).drewN k) = .ok (.string ⟨(Lib.decDigits u).toArray⟩) ((putRow (fun (b : UInt8) => Value.int .u8 (b.toNat : Int)) (w.alloc (.cells Lib.zeros24 296)) w.heap.size 0 dk).drewN k) := by
   have h := run_convert_bytes_back (P := Tryz.prog) ((putRow (fun (b : UInt8) => Value.int .u8 (b.toNat : Int)) (w.alloc (.cells Lib.zeros24 296)) w.heap.size 0 dk).drewN k) 22 9 5 ⟨w.heap.size, 0, none⟩ 24 (Lib.decDigits u) LL.t22 LL.t5 LL.t9 (fun j hj => by
    rw [Lib.row_is_numeral hF j hj, Lib.add_plain, World.cell?_drewN]
    exact cell?_putRow (fun (b : UInt8) => Value.int .u8 (b.toNat : Int)) _ w.heap.size 0 _ dk HH0.out (by rw [hF.size, Array.size_replicate]) j (by rw [hF.size]; rw [Lib.decDigits_length] at hj; exact hj))
   rw [Lib.decDigits_length] at h
   exact h
  go_wp2
  go_ret
  obtain ⟨os, eo⟩ := fin_pos0 w (.cells Lib.zeros24 296) dk k
  exact ⟨rfl, k, os, eo⟩
end Go.Proofs.YtpajpkbipagjpaaGreatDoor.Oc

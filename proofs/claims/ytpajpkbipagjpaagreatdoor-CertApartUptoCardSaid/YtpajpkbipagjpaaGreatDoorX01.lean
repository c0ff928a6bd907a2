/- An abstract machine over values, that the program's machine follows it, and its rules (X01). No condition. -/
import Derived.Test.YtpajpkbipagjpaaGreatDoorX00
import Derived.Laws.Bits
import Derived.Laws.StructEq
import Derived.WideLaws
import Derived.Laws.Small
import Derived.Lib.SliceRun
import Derived.Laws.MakeOwn
import Derived.Lib.ConvBytes
import Derived.CallsIn
import Derived.TacticsIn
import Derived.RangeFuncLeaves
set_option linter.unusedVariables false
set_option linter.unusedSimpArgs false
namespace Go.Proofs.YtpajpkbipagjpaaGreatDoor.Vm
open Go Go.RowKit
inductive Res2 where
 | val (d : D)
 | req (p : Prop) (d : D)
 | all (q : Bool → Prop) (f : Bool → D)
 | stop
def Res2.ok (K : D → Prop) : Res2 → Prop
 | .val d => K d
 | .req p d => p ∧ K d
 | .all q f => ∀ b, q b → K (f b)
 | .stop => False
def Good2 (P : Program) (w : World) (I : Cset) (β : Nat → Pl) (s : Sem Value) (K : D → Prop) : Prop := ∃ v d, s.run P w = .ok v w ∧ RVD w I β d v ∧ K d
def evInt (op : BinOp) (k : IntKind) (a b : Int) : Res2 :=
 match op with
 | .add => .val (.dat (.int k (k.wrap (a + b))))
 | .sub => .val (.dat (.int k (k.wrap (a - b))))
 | .mul => .val (.dat (.int k (k.wrap (a * b))))
 | .quo => .req (b ≠ 0) (.dat (.int k (k.wrap (a.tdiv b))))
 | .rem => .req (b ≠ 0) (.dat (.int k (a.tmod b)))
 | .and => .val (.dat (.int k (bits .and k a b)))
 | .or => .val (.dat (.int k (bits .or k a b)))
 | .xor => .val (.dat (.int k (bits .xor k a b)))
 | .andNot => .val (.dat (.int k (bits .andNot k a b)))
 | .eql => .val (.dat (.bool (decide (a = b))))
 | .neq => .val (.dat (.bool (!decide (a = b))))
 | .lss => .val (.dat (.bool (decide (a < b))))
 | .leq => .val (.dat (.bool (decide (a ≤ b))))
 | .gtr => .val (.dat (.bool (decide (b < a))))
 | .geq => .val (.dat (.bool (decide (b ≤ a))))
 | _ => .stop
def evStr (op : BinOp) (a b : List UInt8) : Res2 :=
 match op with
 | .add => .req (a.length + b.length ≤ 9223372036854775807) (.dat (.str (a ++ b)))
 | .eql => .val (.dat (.bool (decide (a = b))))
 | .neq => .val (.dat (.bool (!decide (a = b))))
 | .lss => .val (.dat (.bool (Op.bytesLess a b)))
 | .leq => .val (.dat (.bool (Op.bytesLess a b || decide (a = b))))
 | .gtr => .val (.dat (.bool !(Op.bytesLess a b || decide (a = b))))
 | .geq => .val (.dat (.bool !(Op.bytesLess a b)))
 | _ => .stop
def evFields (P : Program) (cs ds : List D) : List (Nat × TypeId) → Option Bool
 | [] => some true
 | f :: fs =>
   match cs[f.1]?, ds[f.1]?, evFields P cs ds fs with
   | some (.dat (.int k a)), some (.dat (.int k' b)), some r => if k = k' ∧ kindT P f.2 = .int k then some (decide (a = b) && r) else none
   | some (.dat (.bool a)), some (.dat (.bool b)), some r => if kindT P f.2 = .bool then some (decide (a = b) && r) else none
   | some (.dat (.str a)), some (.dat (.str b)), some r => if kindT P f.2 = .str then some (decide (a = b) && r) else none
   | _, _, _ => none
def evBin (E : Env) (op : BinOp) (t : TypeId) (x y : D) : Res2 :=
 match op, x, y with
 | .shl, .dat (.int k a), .dat (.int _ b) => .req (0 ≤ b) (.dat (.int k (k.wrap (a * 2 ^ min b.toNat k.bits))))
 | .shr, .dat (.int k a), .dat (.int _ b) => .req (0 ≤ b) (.dat (.int k (a.fdiv (2 ^ min b.toNat k.bits))))
 | _, .dat (.int k a), .dat (.int k' b) => if k = k' then evInt op k a b else .stop
 | _, .dat (.str a), .dat (.str b) => evStr op a b
 | .eql, .dat (.bool a), .dat (.bool b) => match kindT E.P t with | .bool => .val (.dat (.bool (decide (a = b)))) | _ => .stop
 | .neq, .dat (.bool a), .dat (.bool b) => match kindT E.P t with | .bool => .val (.dat (.bool (!decide (a = b)))) | _ => .stop
 | .eql, .dat (.iface _ _), .dat .nili => match kindT E.P t with | .iface => .val (.dat (.bool false)) | _ => .stop
 | .neq, .dat (.iface _ _), .dat .nili => match kindT E.P t with | .iface => .val (.dat (.bool true)) | _ => .stop
 | .eql, .dat .nili, .dat .nili => match kindT E.P t with | .iface => .val (.dat (.bool true)) | _ => .stop
 | .neq, .dat .nili, .dat .nili => match kindT E.P t with | .iface => .val (.dat (.bool false)) | _ => .stop
 | .eql, .dat (.fn _), .dat .nilf => match kindT E.P t with | .func => .val (.dat (.bool false)) | _ => .stop
 | .neq, .dat (.fn _), .dat .nilf => match kindT E.P t with | .func => .val (.dat (.bool true)) | _ => .stop
 | .eql, .fn _ _ _, .dat .nilf => match kindT E.P t with | .func => .val (.dat (.bool false)) | _ => .stop
 | .neq, .fn _ _ _, .dat .nilf => match kindT E.P t with | .func => .val (.dat (.bool true)) | _ => .stop
 | .eql, .dat .nilf, .dat .nilf => match kindT E.P t with | .func => .val (.dat (.bool true)) | _ => .stop
 | .neq, .dat .nilf, .dat .nilf => match kindT E.P t with | .func => .val (.dat (.bool false)) | _ => .stop
 | _, _, _ => .stop
def evNil (P : Program) (op : BinOp) (t : TypeId) (x : D) : Res2 :=
 match kindT P t, op, x with
 | .slice _, .eql, .dat (.lst xs) => .all (fun b => b = true → xs = []) (fun b => .dat (.bool b))
 | .slice _, .neq, .dat (.lst xs) => .all (fun b => b = false → xs = []) (fun b => .dat (.bool b))
 | .slice _, .eql, .nilsl => .all (fun _ => True) (fun b => .dat (.bool b))
 | .slice _, .neq, .nilsl => .all (fun _ => True) (fun b => .dat (.bool b))
 | .slice _, .eql, .sl l o n => .all (fun b => b = true → n = 0) (fun b => .dat (.bool b))
 | .slice _, .neq, .sl l o n => .all (fun b => b = false → n = 0) (fun b => .dat (.bool b))
 | _, _, _ => .stop
section
variable {P : Program} {w : World} {I : Cset} {β : Nat → Pl} {K : D → Prop}
theorem Good2.dat {s : Sem Value} {v : Value} {d : Data} (h : s.run P w = .ok v w) (hv : RV w I d v) (hk : K (.dat d)) : Good2 P w I β s K := ⟨v, _, h, by simpa only [RVD] using hv, hk⟩
theorem good_int (op : BinOp) (t : TypeId) (k : IntKind) (a b : Int) (h : (evInt op k a b).ok K) : Good2 P w I β (binOp op t (.int k a) (.int k b)) K := by
 unfold evInt at h
 split at h
 ·exact Good2.dat (v := .int k (k.wrap (a + b))) (by simp [binOp, Op.intArith]) (by simp only [RV]) h
 ·exact Good2.dat (v := .int k (k.wrap (a - b))) (by simp [binOp, Op.intArith]) (by simp only [RV]) h
 ·exact Good2.dat (v := .int k (k.wrap (a * b))) (by simp [binOp, Op.intArith]) (by simp only [RV]) h
 ·exact Good2.dat (v := .int k (k.wrap (a.tdiv b))) (by simp [binOp, Op.intDiv, h.1]) (by simp only [RV]) h.2
 ·exact Good2.dat (v := .int k (a.tmod b)) (by simp [binOp, Op.intDiv, h.1]) (by simp only [RV]) h.2
 ·exact Good2.dat (v := .int k (bits .and k a b)) (by simp [binOp, Op.intBits, bits]) (by simp only [RV]) h
 ·exact Good2.dat (v := .int k (bits .or k a b)) (by simp [binOp, Op.intBits, bits]) (by simp only [RV]) h
 ·exact Good2.dat (v := .int k (bits .xor k a b)) (by simp [binOp, Op.intBits, bits]) (by simp only [RV]) h
 ·exact Good2.dat (v := .int k (bits .andNot k a b)) (by simp [binOp, Op.intBits, bits]) (by simp only [RV]) h
 ·exact Good2.dat (v := .bool (decide (a = b))) (by simp [binOp, Op.intCmp]; rfl) (by simp only [RV]) h
 ·exact Good2.dat (v := .bool (!decide (a = b))) (by simp [binOp, Op.intCmp]; rfl) (by simp only [RV]) h
 ·exact Good2.dat (v := .bool (decide (a < b))) (by simp [binOp, Op.intCmp]) (by simp only [RV]) h
 ·exact Good2.dat (v := .bool (decide (a ≤ b))) (by simp [binOp, Op.intCmp]) (by simp only [RV]) h
 ·exact Good2.dat (v := .bool (decide (b < a))) (by simp [binOp, Op.intCmp]) (by simp only [RV]) h
 ·exact Good2.dat (v := .bool (decide (b ≤ a))) (by simp [binOp, Op.intCmp]) (by simp only [RV]) h
 ·exact h.elim
theorem toList_mk (a : List UInt8) : (⟨a.toArray⟩ : ByteArray).toList = a := by rw [ByteArray.toList_eq]
theorem beq_dec (a b : List UInt8) : (a == b) = decide (a = b) := by rw [Bool.eq_iff_iff]; simp
theorem good_str (op : BinOp) (t : TypeId) (a b : List UInt8) (h : (evStr op a b).ok K) : Good2 P w I β (binOp op t (.string ⟨a.toArray⟩) (.string ⟨b.toArray⟩)) K := by
 unfold evStr at h
 split at h
 ·refine Good2.dat (v := .string ⟨(a ++ b).toArray⟩) ?_ (by simp only [RV]) h.2
  have e1 : ¬ (((⟨a.toArray⟩ : ByteArray).size + (⟨b.toArray⟩ : ByteArray).size : Nat) : Int) > IntKind.i64.max := by
   have := h.1
   simp only [ByteArray.size, List.size_toArray, IntKind.max, IntKind.signed, IntKind.bits]
   simp
   omega
  have e2 : (⟨a.toArray⟩ : ByteArray) ++ (⟨b.toArray⟩ : ByteArray) = ⟨(a ++ b).toArray⟩ := by
   apply ByteArray.ext
   rw [ByteArray.data_append]
   simp
  simp only [binOp, Op.stringOp, if_neg e1, e2, Sem.run_pure]
 all_goals first
  | exact h.elim
  | skip
 ·exact Good2.dat (v := .bool (decide (a = b))) (by simp [binOp, Op.stringOp, toList_mk, beq_dec]) (by simp only [RV]) h
 ·exact Good2.dat (v := .bool (!decide (a = b))) (by simp [binOp, Op.stringOp, toList_mk, beq_dec]) (by simp only [RV]) h
 ·exact Good2.dat (v := .bool (Op.bytesLess a b)) (by simp [binOp, Op.stringOp, toList_mk]) (by simp only [RV]) h
 ·exact Good2.dat (v := .bool (Op.bytesLess a b || decide (a = b))) (by simp [binOp, Op.stringOp, toList_mk, beq_dec]) (by simp only [RV]) h
 ·exact Good2.dat (v := .bool !(Op.bytesLess a b || decide (a = b))) (by simp [binOp, Op.stringOp, toList_mk, beq_dec]) (by simp only [RV]) h
 ·exact Good2.dat (v := .bool !(Op.bytesLess a b)) (by simp [binOp, Op.stringOp, toList_mk]) (by simp only [RV]) h
theorem eqFields_ok {cs ds : List D} {vs us : Array Value} (hc : RVDs w I β cs vs.toList) (hd : RVDs w I β ds us.toList) (n : Nat) : ∀ (gs : List Field) (r : Bool), (gs.all fun g => g.name != "_") = true →
 evFields P cs ds (gs.map fun f => (f.offset, f.type)) = some r → (Op.eqFields (n + 1) vs us gs).run P w = .ok r w
 | [], r, _, h => by
   simp only [List.map_nil, evFields, Option.some.injEq] at h; subst h
   simp [Op.eqFields]
 | g :: gs, r, hn, h => by
   simp only [List.all_cons, Bool.and_eq_true] at hn
   have hg : g.name ≠ "_" := by simpa using hn.1
   simp only [List.map_cons, evFields] at h
   split at h
   ·rename_i k a k' b r' h1 h2 h3
    split at h
    ·rename_i hk
     obtain ⟨rfl, hkt⟩ := hk
     simp only [Option.some.injEq] at h; subst h
     have hu := underlying_int hkt
     have ih := eqFields_ok hc hd n gs r' hn.2 h3
     obtain ⟨v, hv, hr⟩ := hc.at _ _ h1
     obtain ⟨u, hv', hr'⟩ := hd.at _ _ h2
     simp only [RVD, RV] at hr hr'
     subst hr hr'
     have hne : kindT P g.type ≠ .other := by rw [hkt]; simp
     have hagg : (kindT P g.type).agg = false := by rw [hkt]; rfl
     have p1 : (part g.type vs g.offset).run P w = .ok (.int k a) w := by
      have : vs[g.offset]? = some (.int k a) := by simpa using hv
      simp [part, run_isAgg w hne, hagg, this]
     have p2 : (part g.type us g.offset).run P w = .ok (.int k b) w := by
      have : us[g.offset]? = some (.int k b) := by simpa using hv'
      simp [part, run_isAgg w hne, hagg, this]
     simp only [Op.eqFields]
     simp only [Sem.run_bind, Sem.run_ite, if_pos hg, p1, p2, Result.andThen_ok, run_equalIn_int w n g.type k k a b hu]
     by_cases e : a = b
     ·subst e
      simp only [BEq.rfl, Bool.not_true, Bool.false_eq_true, if_false, decide_true, Bool.true_and]
      exact ih
     ·have : (a == b) = false := by simpa using e
      simp [this, e]
    ·cases h
   ·rename_i a b r' h1 h2 h3
    split at h
    ·rename_i hkt
     simp only [Option.some.injEq] at h; subst h
     have hu := underlying_bool hkt
     have ih := eqFields_ok hc hd n gs r' hn.2 h3
     obtain ⟨v, hv, hr⟩ := hc.at _ _ h1
     obtain ⟨u, hv', hr'⟩ := hd.at _ _ h2
     simp only [RVD, RV] at hr hr'
     subst hr hr'
     have hne : kindT P g.type ≠ .other := by rw [hkt]; simp
     have hagg : (kindT P g.type).agg = false := by rw [hkt]; rfl
     have p1 : (part g.type vs g.offset).run P w = .ok (.bool a) w := by
      have : vs[g.offset]? = some (.bool a) := by simpa using hv
      simp [part, run_isAgg w hne, hagg, this]
     have p2 : (part g.type us g.offset).run P w = .ok (.bool b) w := by
      have : us[g.offset]? = some (.bool b) := by simpa using hv'
      simp [part, run_isAgg w hne, hagg, this]
     simp only [Op.eqFields]
     simp only [Sem.run_bind, Sem.run_ite, if_pos hg, p1, p2, Result.andThen_ok, run_equalIn_bool w n g.type a b hu]
     by_cases e : a = b
     ·subst e
      simp only [BEq.rfl, Bool.not_true, Bool.false_eq_true, if_false, decide_true, Bool.true_and]
      exact ih
     ·have : (a == b) = false := by simpa using e
      simp [this, e]
    ·cases h
   ·rename_i a b r' h1 h2 h3
    split at h
    ·rename_i hkt
     simp only [Option.some.injEq] at h; subst h
     have hu := underlying_str hkt
     have ih := eqFields_ok hc hd n gs r' hn.2 h3
     obtain ⟨v, hv, hr⟩ := hc.at _ _ h1
     obtain ⟨u, hv', hr'⟩ := hd.at _ _ h2
     simp only [RVD, RV] at hr hr'
     subst hr hr'
     have hne : kindT P g.type ≠ .other := by rw [hkt]; simp
     have hagg : (kindT P g.type).agg = false := by rw [hkt]; rfl
     have p1 : (part g.type vs g.offset).run P w = .ok (.string ⟨a.toArray⟩) w := by
      have : vs[g.offset]? = some (.string ⟨a.toArray⟩) := by simpa using hv
      simp [part, run_isAgg w hne, hagg, this]
     have p2 : (part g.type us g.offset).run P w = .ok (.string ⟨b.toArray⟩) w := by
      have : us[g.offset]? = some (.string ⟨b.toArray⟩) := by simpa using hv'
      simp [part, run_isAgg w hne, hagg, this]
     simp only [Op.eqFields]
     simp only [Sem.run_bind, Sem.run_ite, if_pos hg, p1, p2, Result.andThen_ok, run_equalIn_string w n g.type _ _ hu, toList_mk]
     by_cases e : a = b
     ·subst e
      simp only [BEq.rfl, Bool.not_true, Bool.false_eq_true, if_false, decide_true, Bool.true_and]
      exact ih
     ·have : (a == b) = false := by simpa using e
      simp [this, e]
    ·cases h
   ·cases h
end
end Go.Proofs.YtpajpkbipagjpaaGreatDoor.Vm
namespace Go.Proofs.YtpajpkbipagjpaaGreatDoor.Vm
open Go Go.RowKit
section
variable {P : Program} {w : World} {I : Cset} {β : Nat → Pl} {K : D → Prop}
theorem underlying_iface {t : TypeId} (h : kindT P t = .iface) : ∃ ms, P.underlying t = some (.interface ms) := by
 unfold kindT at h; split at h <;> first | exact ⟨_, by assumption⟩ | cases h
theorem underlying_func {t : TypeId} (h : kindT P t = .func) : ∃ a b c, P.underlying t = some (.func a b c) := by
 unfold kindT at h; split at h <;> first | exact ⟨_, _, _, by assumption⟩ | cases h
theorem eqIn1 (d : Nat) {t u : TypeId} {ms : Array (String × TypeId)} {x : Value} (hu : P.underlying t = some (.interface ms)) : (Op.equalIn (d + 1) t (.iface u x) .nilIface).run P w = .ok false w := by simp [Op.equalIn, run_underlying hu]
theorem eqIn2 (d : Nat) {t : TypeId} {ms : Array (String × TypeId)} (hu : P.underlying t = some (.interface ms)) : (Op.equalIn (d + 1) t .nilIface .nilIface).run P w = .ok true w := by simp [Op.equalIn, run_underlying hu]
theorem eqIn3 (d : Nat) {t : TypeId} {p q : Array TypeId} {b : Bool} {f : Fn} {xs ys : Array Value} (hu : P.underlying t = some (.func p q b)) : (Op.equalIn (d + 1) t (.func f xs ys) .nilFunc).run P w = .ok false w := by simp [Op.equalIn, run_underlying hu]
theorem eqIn4 (d : Nat) {t : TypeId} {p q : Array TypeId} {b : Bool} (hu : P.underlying t = some (.func p q b)) : (Op.equalIn (d + 1) t .nilFunc .nilFunc).run P w = .ok true w := by simp [Op.equalIn, run_underlying hu]
theorem eqIn5 (d : Nat) {t e : TypeId} {a : Option Addr} {n c : Nat} (hu : P.underlying t = some (.slice e)) : (Op.equalIn (d + 1) t (.slice a n c) (.slice none 0 0)).run P w = .ok a.isNone w := by
 cases a <;> simp [Op.equalIn, run_underlying hu]
theorem eql_nil_r {t u : TypeId} {ms : Array (String × TypeId)} {x : Value} (hu : P.underlying t = some (.interface ms)) : (binOp .eql t (.iface u x) .nilIface).run P w = .ok (.bool false) w := by
 have e : (Op.equal t (.iface u x) .nilIface).run P w = .ok false w := eqIn1 9999 hu
 simp only [binOp]; simp [e]
theorem neq_nil_r {t u : TypeId} {ms : Array (String × TypeId)} {x : Value} (hu : P.underlying t = some (.interface ms)) : (binOp .neq t (.iface u x) .nilIface).run P w = .ok (.bool true) w := by
 have e : (Op.equal t (.iface u x) .nilIface).run P w = .ok false w := eqIn1 9999 hu
 simp only [binOp]; simp [e]
theorem eql_nil_nil {t : TypeId} {ms : Array (String × TypeId)} (hu : P.underlying t = some (.interface ms)) : (binOp .eql t .nilIface .nilIface).run P w = .ok (.bool true) w := by
 have e : (Op.equal t .nilIface .nilIface).run P w = .ok true w := eqIn2 9999 hu
 simp only [binOp]; simp [e]
theorem neq_nil_nil {t : TypeId} {ms : Array (String × TypeId)} (hu : P.underlying t = some (.interface ms)) : (binOp .neq t .nilIface .nilIface).run P w = .ok (.bool false) w := by
 have e : (Op.equal t .nilIface .nilIface).run P w = .ok true w := eqIn2 9999 hu
 simp only [binOp]; simp [e]
theorem eql_fn_nil {t : TypeId} {p q : Array TypeId} {b : Bool} {f : Fn} {xs ys : Array Value} (hu : P.underlying t = some (.func p q b)) : (binOp .eql t (.func f xs ys) .nilFunc).run P w = .ok (.bool false) w := by
 have e : (Op.equal t (.func f xs ys) .nilFunc).run P w = .ok false w := eqIn3 9999 hu
 simp only [binOp]; simp [e]
theorem neq_fn_nil {t : TypeId} {p q : Array TypeId} {b : Bool} {f : Fn} {xs ys : Array Value} (hu : P.underlying t = some (.func p q b)) : (binOp .neq t (.func f xs ys) .nilFunc).run P w = .ok (.bool true) w := by
 have e : (Op.equal t (.func f xs ys) .nilFunc).run P w = .ok false w := eqIn3 9999 hu
 simp only [binOp]; simp [e]
theorem eql_nilf {t : TypeId} {p q : Array TypeId} {b : Bool} (hu : P.underlying t = some (.func p q b)) : (binOp .eql t .nilFunc .nilFunc).run P w = .ok (.bool true) w := by
 have e : (Op.equal t .nilFunc .nilFunc).run P w = .ok true w := eqIn4 9999 hu
 simp only [binOp]; simp [e]
theorem neq_nilf {t : TypeId} {p q : Array TypeId} {b : Bool} (hu : P.underlying t = some (.func p q b)) : (binOp .neq t .nilFunc .nilFunc).run P w = .ok (.bool false) w := by
 have e : (Op.equal t .nilFunc .nilFunc).run P w = .ok true w := eqIn4 9999 hu
 simp only [binOp]; simp [e]
theorem eql_slice {t e : TypeId} {a : Option Addr} {n c : Nat} (hu : P.underlying t = some (.slice e)) : (binOp .eql t (.slice a n c) (.slice none 0 0)).run P w = .ok (.bool a.isNone) w := by
 have e : (Op.equal t (.slice a n c) (.slice none 0 0)).run P w = .ok a.isNone w := eqIn5 9999 hu
 simp only [binOp]; simp [e]
theorem neq_slice {t e : TypeId} {a : Option Addr} {n c : Nat} (hu : P.underlying t = some (.slice e)) : (binOp .neq t (.slice a n c) (.slice none 0 0)).run P w = .ok (.bool !a.isNone) w := by
 have e : (Op.equal t (.slice a n c) (.slice none 0 0)).run P w = .ok a.isNone w := eqIn5 9999 hu
 simp only [binOp]; simp [e]
theorem rv_bool {w : World} {I : Cset} (b : Bool) : RV w I (.bool b) (.bool b) := by simp only [RV]
theorem good_nil (op : BinOp) (t : TypeId) {x : D} {vx : Value} (hx : RVD w I β x vx) (h : (evNil P op t x).ok K) : Good2 P w I β (binOp op t vx (.slice none 0 0)) K := by
 unfold evNil at h
 split at h
 ·rename_i xs hk
  have hu := underlying_slice hk
  simp only [RVD, RV] at hx
  obtain ⟨a, n, c, rfl, rfl, _, hc⟩ := hx
  refine Good2.dat (eql_slice hu) (rv_bool _) (h _ fun ha => ?_)
  rcases hc with hc | ⟨b, o, sz, rfl, _⟩
  ·exact hc
  ·simp at ha
 ·rename_i xs hk
  have hu := underlying_slice hk
  simp only [RVD, RV] at hx
  obtain ⟨a, n, c, rfl, rfl, _, hc⟩ := hx
  refine Good2.dat (neq_slice hu) (rv_bool _) (h _ fun ha => ?_)
  rcases hc with hc | ⟨b, o, sz, rfl, _⟩
  ·exact hc
  ·simp at ha
 ·rename_i hk
  have hu := underlying_slice hk
  simp only [RVD] at hx
  obtain ⟨a, rfl⟩ := hx
  exact Good2.dat (eql_slice hu) (rv_bool _) (h _ trivial)
 ·rename_i hk
  have hu := underlying_slice hk
  simp only [RVD] at hx
  obtain ⟨a, rfl⟩ := hx
  exact Good2.dat (neq_slice hu) (rv_bool _) (h _ trivial)
 ·rename_i l o n hk
  have hu := underlying_slice hk
  simp only [RVD] at hx
  rcases hx with ⟨_, _, hn, a, rfl⟩ | ⟨b, c, sz, a, _, _, rfl, ha⟩
  ·exact Good2.dat (eql_slice hu) (rv_bool _) (h _ fun _ => hn)
  ·refine Good2.dat (eql_slice hu) (rv_bool _) (h _ fun hh => ?_)
   rcases ha with rfl | ha
   ·simp at hh
   ·exact ha.1
 ·rename_i l o n hk
  have hu := underlying_slice hk
  simp only [RVD] at hx
  rcases hx with ⟨_, _, hn, a, rfl⟩ | ⟨b, c, sz, a, _, _, rfl, ha⟩
  ·exact Good2.dat (neq_slice hu) (rv_bool _) (h _ fun _ => hn)
  ·refine Good2.dat (neq_slice hu) (rv_bool _) (h _ fun hh => ?_)
   rcases ha with rfl | ha
   ·simp at hh
   ·exact ha.1
 ·exact h.elim
def structEqOK (P : Program) (t : TypeId) : Bool :=
 match P.underlying t with
 | some (.struct fs) => fs.toList.all (fun f => f.name != "_") && !P.stoodInHeld t && !P.eqGuardType P.depth t
 | _ => false
def evBinS (E : Env) (op : BinOp) (t : TypeId) (x y : D) : Res2 :=
 if structEqOK E.P t then
  match kindT E.P t, cellsD x, cellsD y with
  | .struct fs, some cs, some ds => match evFields E.P cs ds fs, op with
    | some r, .eql => .val (.dat (.bool r))
    | some r, .neq => .val (.dat (.bool (!r)))
    | _, _ => .stop
  | _, _, _ => .stop
 else .stop
theorem good_bin {E : Env} (op : BinOp) (t : TypeId) {x y : D} {vx vy : Value} (hx : RVD w I β x vx) (hy : RVD w I β y vy) (h : (evBin E op t x y).ok K) : Good2 E.P w I β (binOp op t vx vy) K := by
 unfold evBin at h
 split at h
 ·-- <<
  simp only [RVD, RV] at hx hy; subst hx hy
  rename_i k a yk b
  exact Good2.dat (v := .int k (k.wrap (a * 2 ^ min b.toNat k.bits))) (by simp [binOp, Op.shift, show ¬ b < 0 by have := h.1; omega]) (by simp only [RV]) h.2
 ·simp only [RVD, RV] at hx hy; subst hx hy
  rename_i k a yk b
  exact Good2.dat (v := .int k (a.fdiv (2 ^ min b.toNat k.bits))) (by simp [binOp, Op.shift, show ¬ b < 0 by have := h.1; omega]) (by simp only [RV]) h.2
 ·simp only [RVD, RV] at hx hy; subst hx hy
  split at h
  ·rename_i e; subst e; exact good_int op t _ _ _ h
  ·exact h.elim
 ·simp only [RVD, RV] at hx hy; subst hx hy
  exact good_str op t _ _ h
 ·simp only [RVD, RV] at hx hy; subst hx hy
  split at h
  ·rename_i hk
   exact Good2.dat (run_eql_bool w t _ _ (underlying_bool hk)) (by simp only [RV]; congr 1) h
  ·exact h.elim
 ·simp only [RVD, RV] at hx hy; subst hx hy
  split at h
  ·rename_i hk
   exact Good2.dat (run_neq_bool w t _ _ (underlying_bool hk)) (by simp only [RV]; congr 1) h
  ·exact h.elim
 ·simp only [RVD, RV] at hx hy; obtain ⟨u, rfl, _⟩ := hx; subst hy
  split at h
  ·rename_i hk
   obtain ⟨ms, hu⟩ := underlying_iface (P := E.P) hk
   exact Good2.dat (eql_nil_r hu) (by simp only [RV]) h
  ·exact h.elim
 ·simp only [RVD, RV] at hx hy; obtain ⟨u, rfl, _⟩ := hx; subst hy
  split at h
  ·rename_i hk
   obtain ⟨ms, hu⟩ := underlying_iface (P := E.P) hk
   exact Good2.dat (neq_nil_r hu) (by simp only [RV]) h
  ·exact h.elim
 ·simp only [RVD, RV] at hx hy; subst hx hy
  split at h
  ·rename_i hk
   obtain ⟨ms, hu⟩ := underlying_iface (P := E.P) hk
   exact Good2.dat (eql_nil_nil hu) (by simp only [RV]) h
  ·exact h.elim
 ·simp only [RVD, RV] at hx hy; subst hx hy
  split at h
  ·rename_i hk
   obtain ⟨ms, hu⟩ := underlying_iface (P := E.P) hk
   exact Good2.dat (neq_nil_nil hu) (by simp only [RV]) h
  ·exact h.elim
 ·simp only [RVD, RV] at hx hy; subst hx hy
  split at h
  ·rename_i hk
   obtain ⟨a1, a2, a3, hu⟩ := underlying_func (P := E.P) hk
   exact Good2.dat (eql_fn_nil hu) (by simp only [RV]) h
  ·exact h.elim
 ·simp only [RVD, RV] at hx hy; subst hx hy
  split at h
  ·rename_i hk
   obtain ⟨a1, a2, a3, hu⟩ := underlying_func (P := E.P) hk
   exact Good2.dat (neq_fn_nil hu) (by simp only [RV]) h
  ·exact h.elim
 ·simp only [RVD, RV] at hx hy; obtain ⟨u1, u2, rfl, _⟩ := hx; subst hy
  split at h
  ·rename_i hk
   obtain ⟨a1, a2, a3, hu⟩ := underlying_func (P := E.P) hk
   exact Good2.dat (eql_fn_nil hu) (by simp only [RV]) h
  ·exact h.elim
 ·simp only [RVD, RV] at hx hy; obtain ⟨u1, u2, rfl, _⟩ := hx; subst hy
  split at h
  ·rename_i hk
   obtain ⟨a1, a2, a3, hu⟩ := underlying_func (P := E.P) hk
   exact Good2.dat (neq_fn_nil hu) (by simp only [RV]) h
  ·exact h.elim
 ·simp only [RVD, RV] at hx hy; subst hx hy
  split at h
  ·rename_i hk
   obtain ⟨a1, a2, a3, hu⟩ := underlying_func (P := E.P) hk
   exact Good2.dat (eql_nilf hu) (by simp only [RV]) h
  ·exact h.elim
 ·simp only [RVD, RV] at hx hy; subst hx hy
  split at h
  ·rename_i hk
   obtain ⟨a1, a2, a3, hu⟩ := underlying_func (P := E.P) hk
   exact Good2.dat (neq_nilf hu) (by simp only [RV]) h
  ·exact h.elim
 ·exact h.elim
theorem good_binS {E : Env} (op : BinOp) (t : TypeId) {x y : D} {vx vy : Value} (hx : RVD w I β x vx) (hy : RVD w I β y vy) (h : (evBinS E op t x y).ok K) (hv : (∃ a, vx = .agg a) ∧ ∃ b, vy = .agg b) :
 Good2 E.P w I β (binOp op t vx vy) K ∧ ∀ ox oy, (eqGuard op t ox oy vx vy).run E.P w = .ok () w := by
 obtain ⟨⟨xs, rfl⟩, ys, rfl⟩ := hv
 unfold evBinS at h
 split at h
 ·rename_i hs
  unfold structEqOK at hs
  split at hs
  ·rename_i gs hu
   simp only [Bool.and_eq_true, Bool.not_eq_true'] at hs
   obtain ⟨⟨hn, hst⟩, hg⟩ := hs
   have hfo : E.P.fieldsOf t = gs := by simp [Program.fieldsOf, hu]
   refine ⟨?_, fun ox oy => run_eqGuard_agg w op t ox oy xs ys hg⟩
   split at h
   ·rename_i fs cs ds hk hc hd
    split at h
    ·rename_i r hr
     obtain ⟨gs', hu', hm⟩ := underlying_struct (P := E.P) hk
     rw [hu] at hu'; injection hu' with hu'; injection hu' with hu'; subst hu'
     have e1 : (Op.eqFields 9999 xs ys gs.toList).run E.P w = .ok r w := eqFields_ok (P := E.P) (w := w) (cellsD_ok hx hc) (cellsD_ok hy hd) 9998 gs.toList r hn (by rw [hm]; exact hr)
     refine ⟨_, _, ?_, by simp only [RVD]; exact rv_bool r, h⟩
     rw [run_eql_struct]
     have e2 := run_equalIn_struct (P := E.P) w 9999 t xs ys (by rw [hfo]; exact hu) hst
     rw [hfo] at e2
     rw [e2, e1]; rfl
    ·rename_i r hr
     obtain ⟨gs', hu', hm⟩ := underlying_struct (P := E.P) hk
     rw [hu] at hu'; injection hu' with hu'; injection hu' with hu'; subst hu'
     have e1 : (Op.eqFields 9999 xs ys gs.toList).run E.P w = .ok r w := eqFields_ok (P := E.P) (w := w) (cellsD_ok hx hc) (cellsD_ok hy hd) 9998 gs.toList r hn (by rw [hm]; exact hr)
     refine ⟨_, _, ?_, by simp only [RVD]; exact rv_bool (!r), h⟩
     rw [run_neq_struct]
     have e2 := run_equalIn_struct (P := E.P) w 9999 t xs ys (by rw [hfo]; exact hu) hst
     rw [hfo] at e2
     rw [e2, e1]; rfl
    ·exact h.elim
   ·exact h.elim
  ·cases hs
 ·exact h.elim
def evUn (op : UnOp) (x : D) : Res2 :=
 match op, x with
 | .not, .dat (.bool b) => .val (.dat (.bool (!b)))
 | .neg, .dat (.int k n) => .val (.dat (.int k (k.wrap (0 - n))))
 | .xor, .dat (.int k n) => .val (.dat (.int k (bits .xor k (if k.signed then -1 else k.max) n)))
 | _, _ => .stop
theorem good_un (op : UnOp) {x : D} {vx : Value} (hx : RVD w I β x vx) (h : (evUn op x).ok K) : Good2 P w I β (Op.unary op vx) K := by
 unfold evUn at h
 split at h
 ·simp only [RVD, RV] at hx; subst hx
  exact Good2.dat (v := .bool (!_)) (by simp only [Op.unary, Sem.run_pure]) (rv_bool _) h
 ·simp only [RVD, RV] at hx; subst hx
  rename_i k n
  exact Good2.dat (v := .int k (k.wrap (0 - n))) (by simp [Op.unary, Op.intArith]) (by simp only [RV]) h
 ·simp only [RVD, RV] at hx; subst hx
  rename_i k n
  exact Good2.dat (v := .int k (bits .xor k (if k.signed then -1 else k.max) n)) (by simp [Op.unary, Op.intBits, bits]) (by simp only [RV]) h
 ·exact h.elim
def evMax (x y : D) : Res2 :=
 match x, y with
 | .dat (.int k a), .dat (.int _ b) => .val (.dat (.int k (if a < b then b else a)))
 | _, _ => .stop
def evMin (x y : D) : Res2 :=
 match x, y with
 | .dat (.int k a), .dat (.int _ b) => .val (.dat (.int k (if b < a then b else a)))
 | _, _ => .stop
theorem good_max (ts : Array TypeId) (t : TypeId) {x y : D} {vx vy : Value} (hx : RVD w I β x vx) (hy : RVD w I β y vy) (h : (evMax x y).ok K) : Good2 P w I β (Builtin.max_ ts t #[vx, vy]) K := by
 unfold evMax at h
 split at h
 ·simp only [RVD, RV] at hx hy; subst hx hy
  rename_i k a k' b
  exact Good2.dat (v := .int k (if a < b then b else a)) (run_max_int2 w ts t k k' a b) (by simp only [RV]) h
 ·exact h.elim
theorem good_min (ts : Array TypeId) (t : TypeId) {x y : D} {vx vy : Value} (hx : RVD w I β x vx) (hy : RVD w I β y vy) (h : (evMin x y).ok K) : Good2 P w I β (Builtin.min_ ts t #[vx, vy]) K := by
 unfold evMin at h
 split at h
 ·simp only [RVD, RV] at hx hy; subst hx hy
  rename_i k a k' b
  exact Good2.dat (v := .int k (if b < a then b else a)) (run_min_int2 w ts t k k' a b) (by simp only [RV]) h
 ·exact h.elim
def evLen (P : Program) (t : TypeId) (x : D) : Res2 :=
 match kindT P t, x with
 | .str, .dat (.str s) => .val (.dat (.int .i64 s.length))
 | .slice _, .dat (.lst xs) => .val (.dat (.int .i64 xs.length))
 | .slice _, .nilsl => .val (.dat (.int .i64 0))
 | .slice _, .sl _ _ n => .val (.dat (.int .i64 n))
 | .arr n _, _ => .val (.dat (.int .i64 n))
 | _, _ => .stop
theorem good_len (t ty : TypeId) {x : D} {vx : Value} (hx : RVD w I β x vx) (h : (evLen P t x).ok K) : Good2 P w I β (Builtin.len_ #[t] ty #[vx]) K := by
 unfold evLen at h
 split at h
 ·rename_i s hk
  simp only [RVD, RV] at hx; subst hx
  have hsz : (⟨s.toArray⟩ : ByteArray).size = s.length := List.size_toArray
  exact Good2.dat (v := .int .i64 s.length) (by simp [Builtin.len_, run_underlying (underlying_str hk), goInt, hsz]) (by simp only [RV]) h
 ·rename_i xs hk
  simp only [RVD, RV] at hx; obtain ⟨a, n, c, rfl, rfl, _⟩ := hx
  exact Good2.dat (v := .int .i64 xs.length) (by simp [Builtin.len_, run_underlying (underlying_slice hk), goInt]) (by simp only [RV]) h
 ·rename_i hk
  simp only [RVD] at hx; obtain ⟨a, rfl⟩ := hx
  exact Good2.dat (v := .int .i64 0) (by simp [Builtin.len_, run_underlying (underlying_slice hk), goInt]) (by simp only [RV]) h
 ·rename_i l o n hk
  simp only [RVD] at hx
  rcases hx with ⟨_, _, rfl, a, rfl⟩ | ⟨b, c, sz, a, _, _, rfl, _⟩
  ·exact Good2.dat (v := .int .i64 ((0 : Nat) : Int)) (by simp [Builtin.len_, run_underlying (underlying_slice hk), goInt]) (by simp only [RV]) h
  ·exact Good2.dat (v := .int .i64 n) (by simp [Builtin.len_, run_underlying (underlying_slice hk), goInt]) (by simp only [RV]) h
 ·rename_i n e hk
  exact Good2.dat (v := .int .i64 n) (by simp [Builtin.len_, run_underlying (underlying_arr hk), goInt]) (by simp only [RV]) h
 ·exact h.elim
end
end Go.Proofs.YtpajpkbipagjpaaGreatDoor.Vm
namespace Go.Proofs.YtpajpkbipagjpaaGreatDoor.Vm
open Go Go.RowKit
section
variable {P : Program} {w : World} {I : Cset} {β : Nat → Pl} {K : D → Prop}
def bytesD (s : List UInt8) : List (List Data) := s.map fun c => [.int .u8 (c.toNat : Int)]
def u8s : List (List Data) → Option (List UInt8)
 | [] => some []
 | [.int .u8 n] :: r => match u8s r with | some s => some (UInt8.ofNat n.toNat :: s) | none => none
 | _ :: _ => none
theorem u8s_bytesD : ∀ (s : List UInt8), u8s (bytesD s) = some s
 | [] => rfl
 | c :: s => by
   have := u8s_bytesD s
   simp only [bytesD, List.map_cons] at this ⊢
   simp [u8s, this]
def rdD (st : St) : D → Option (List (List Data))
 | .dat (.lst xs) => some xs
 | .nilsl => some []
 | .sl l o n => match find st.h l with
   | some (.arr _ _ xs _) => if o + n ≤ xs.length then some ((xs.drop o).take n) else none
   | _ => none
 | _ => none
def Rd (w : World) (I : Cset) (xs : List (List Data)) (v : Value) : Prop :=
 ∃ a n c, v = .slice a n c ∧ n = xs.length ∧ n ≤ c ∧ (xs = [] ∨ ∃ b o sz, a = some ⟨b, o, none⟩ ∧ 0 < sz ∧ (∀ x ∈ xs, x.length = sz) ∧
  ∀ (j : Nat) (d : Data), xs.flatten[j]? = some d → d.one = true ∧ ∃ u, w.cell? ⟨b, o + j, none⟩ = some u ∧ RV w I d u)
theorem RE.flat {w : World} {I : Cset} {sz : Nat} : ∀ {xs : List (List Data)} {b o : Nat}, RE w I sz xs b o → ∀ (j : Nat) (d : Data), xs.flatten[j]? = some d → d.one = true ∧ ∃ u, w.cell? ⟨b, o + j, none⟩ = some u ∧ RV w I d u
 | [], b, o, h, j, d, hj => by simp at hj
 | x :: xs, b, o, h, j, d, hj => by
   simp only [RE] at h
   rw [List.flatten_cons] at hj
   rcases Nat.lt_or_ge j x.length with g | g
   ·rw [List.getElem?_append_left g] at hj
    obtain ⟨v, h1, _, h3, h4⟩ := h.2.1.at j d hj
    exact ⟨h3, v, h1, h4⟩
   ·rw [List.getElem?_append_right g] at hj
    obtain ⟨h3, v, h1, h4⟩ := RE.flat h.2.2 _ d hj
    exact ⟨h3, v, by rw [← h1]; congr 2; omega, h4⟩
theorem RE.lengths {w : World} {I : Cset} {sz : Nat} : ∀ {xs : List (List Data)} {b o : Nat}, RE w I sz xs b o → ∀ x ∈ xs, x.length = sz
 | [], b, o, h, x, hx => by cases hx
 | y :: xs, b, o, h, x, hx => by
   simp only [RE] at h
   rcases List.mem_cons.1 hx with e | e
   ·exact e ▸ h.1
   ·exact RE.lengths h.2.2 x e
theorem flatten_drop {α : Type} {sz : Nat} : ∀ {xs : List (List α)} (n : Nat), (∀ x ∈ xs, x.length = sz) → (xs.drop n).flatten = xs.flatten.drop (n * sz)
 | [], n, _ => by simp
 | x :: xs, 0, _ => by simp
 | x :: xs, n + 1, h => by
   have hx : x.length = sz := h x (by simp)
   have e1 : x.drop ((n + 1) * sz) = [] := List.drop_of_length_le (by rw [hx, Nat.add_mul]; omega)
   rw [List.drop_succ_cons, flatten_drop n (fun y hy => h y (by simp [hy])), List.flatten_cons, List.drop_append, e1, hx, show (n + 1) * sz - sz = n * sz by rw [Nat.add_mul]; omega, List.nil_append]
theorem Sim.rd {Γ : Ctx} {st : St} {a : Act} {as : List Act} (S : Sim Γ st a as β w) {x : D} {v : Value} {xs : List (List Data)} (hx : RVD w (Im Γ β st.h w) β x v) (h : rdD st x = some xs) : Rd w (Im Γ β st.h w) xs v := by
 unfold rdD at h
 split at h
 ·simp only [Option.some.injEq] at h; subst h
  simp only [RVD, RV] at hx
  obtain ⟨a, n, c, rfl, rfl, hn, hc⟩ := hx
  refine ⟨a, _, c, rfl, rfl, hn, ?_⟩
  rcases hc with hc | ⟨b, o, sz, rfl, hz, hre⟩
  ·exact .inl hc
  ·exact .inr ⟨b, o, sz, rfl, hz, hre.lengths, hre.flat⟩
 ·simp only [Option.some.injEq] at h; subst h
  simp only [RVD] at hx
  obtain ⟨a, rfl⟩ := hx
  exact ⟨a, 0, 0, rfl, rfl, Nat.le_refl _, .inl rfl⟩
 ·rename_i l o n
  split at h
  ·rename_i e sz ys fz hf
   split at h
   ·rename_i hlen
    simp only [Option.some.injEq] at h; subst h
    simp only [RVD] at hx
    obtain ⟨p1, p2, p3, p4⟩ := S.heap l _ hf
    have hl : ((ys.drop o).take n).length = n := by simp; omega
    rcases hx with ⟨hb, rfl, rfl, a, rfl⟩ | ⟨b, c, sz', ad, hb, hle, rfl, had⟩
    ·exact ⟨a, 0, 0, rfl, by simp, Nat.le_refl _, .inl (by simp)⟩
    ·rcases p4 with ⟨q, _⟩ | ⟨b', cap, cur, hb', hge, hh, hn, hm, hcs, hcells⟩
     ·rw [hb] at q; cases q
     ·rw [hb] at hb'; injection hb' with e1 e2 e3; subst e1 e2 e3
      refine ⟨ad, n, c - o, rfl, hl.symm, by omega, ?_⟩
      by_cases hn0 : n = 0
      ·exact .inl (by rw [hn0]; simp)
      ·right
       have had' : ad = some ⟨b, o * sz', none⟩ := by
        rcases had with g | g
        ·exact g
        ·omega
       refine ⟨b, o * sz', sz', had', p1, fun x hx => p3 x (List.mem_of_mem_drop (List.mem_of_mem_take hx)), fun j d hj => ?_⟩
       have p3d : ∀ x ∈ ys.drop o, x.length = sz' := fun x hx => p3 x (List.mem_of_mem_drop hx)
       rw [flatten_take n p3d] at hj
       obtain ⟨hj1, hj2⟩ := getElem?_take_lt hj
       rw [flatten_drop o p3, List.getElem?_drop] at hj1
       obtain ⟨h1, u, hu, hr⟩ := hcells _ d hj1
       refine ⟨h1, u, ?_, hr⟩
       simp only [World.cell?, hh, Option.isSome_none, Bool.false_eq_true, if_false]
       exact hu
   ·cases h
  ·cases h
 ·cases h
theorem Rd.src {w : World} {I : Cset} {xs : List (List Data)} {v : Value} {sz : Nat} (h : Rd w I xs v) (hsz : ∀ x ∈ xs, x.length = sz) : Src w I sz xs v := by
 obtain ⟨a, n, c, rfl, rfl, hn, hc⟩ := h
 refine ⟨hsz, ?_⟩
 rcases hc with hc | ⟨b, o, sz', rfl, hz, hl, hcells⟩
 ·subst hc
  cases a with
  | none => exact .inl ⟨c, rfl, rfl⟩
  | some a => exact .inr ⟨a, 0, c, rfl, rfl, [], by simp, by simp, by simp⟩
 ·by_cases hx : xs = []
  ·subst hx
   exact .inr ⟨_, 0, c, rfl, rfl, [], by simp, by simp, by simp⟩
  ·have hss : sz' = sz := by
    obtain ⟨x, r, rfl⟩ := List.exists_cons_of_ne_nil hx
    rw [← hl x (by simp), hsz x (by simp)]
   subst hss
   have hfl := flatten_length hsz
   have hex : ∀ m, m ≤ xs.flatten.length → ∃ news : List Value, news.length = m ∧ (∀ (j : Nat) (u : Value), news[j]? = some u → w.cell? ⟨b, o + j, none⟩ = some u) ∧ ∀ (j : Nat) (d : Data), j < m → xs.flatten[j]? = some d → ∃ u, news[j]? = some u ∧ RV w I d u := by
    intro m
    induction m with
    | zero => intro _; exact ⟨[], rfl, by simp, fun j d hj => by omega⟩
    | succ m ih =>
      intro hm
      obtain ⟨news, h1, h2, h3⟩ := ih (by omega)
      obtain ⟨_, u, hu, hr⟩ := hcells m _ (List.getElem?_eq_getElem (by omega))
      refine ⟨news ++ [u], by simp [h1], fun j u' hj => ?_, fun j d hj hd => ?_⟩
      ·rcases Nat.lt_or_ge j m with g | g
       ·rw [List.getElem?_append_left (by omega)] at hj
        exact h2 j u' hj
       ·rw [List.getElem?_append_right (by omega), h1] at hj
        have : j = m := by have := (List.getElem?_eq_some_iff.1 hj).1; simp at this; omega
        subst this
        simp at hj; subst hj
        exact hu
      ·rcases Nat.lt_or_ge j m with g | g
       ·obtain ⟨u', hu', hr'⟩ := h3 j d g hd
        exact ⟨u', by rw [List.getElem?_append_left (by omega)]; exact hu', hr'⟩
       ·have : j = m := by omega
        subst this
        rw [List.getElem?_eq_getElem (by omega)] at hd
        cases hd
        exact ⟨u, by rw [List.getElem?_append_right (by omega), h1]; simp, hr⟩
   obtain ⟨news, h1, h2, h3⟩ := hex _ (Nat.le_refl _)
   exact .inr ⟨⟨b, o, none⟩, _, c, rfl, rfl, news, by rw [h1, hfl], fun j u hj => by rw [Addr.add_lit]; exact h2 j u hj, fun j d hj => ⟨(hcells j d hj).1, h3 j d (List.getElem?_eq_some_iff.1 hj).1 hj⟩⟩
def evConv (P : Program) (st : St) (src dst : TypeId) (x : D) : Res2 :=
 match kindT P src, kindT P dst, x with
 | .other, _, _ => .stop
 | _, .int k, .dat (.int _ n) => .val (.dat (.int k (k.wrap n)))
 | _, .str, .dat (.str s) => .val (.dat (.str s))
 | .slice e, .str, x => match kindT P e, rdD st x with
   | .int .u8, some xs => match u8s xs with
     | some s => .val (.dat (.str s))
     | none => .stop
   | _, _ => .stop
 | _, _, _ => .stop
theorem u8s_cons {x : List Data} {r : List (List Data)} {s : List UInt8} (h : u8s (x :: r) = some s) : ∃ n s', x = [.int .u8 n] ∧ u8s r = some s' ∧ s = UInt8.ofNat n.toNat :: s' := by
 unfold u8s at h
 split at h
 ·cases ‹_ = []›
 ·rename_i n r' e
  injection e with e1 e2; subst e1 e2
  split at h
  ·rename_i s' hs
   simp only [Option.some.injEq] at h
   exact ⟨n, s', rfl, hs, h.symm⟩
  ·cases h
 ·cases h
theorem u8s_ints : ∀ {xs : List (List Data)} {s : List UInt8}, u8s xs = some s → ∃ ns : List Int, ns.length = xs.length ∧ s = ns.map (fun n => UInt8.ofNat n.toNat) ∧ ∀ j, j < ns.length → xs.flatten[j]? = some (.int .u8 (ns.getD j 0))
 | [], s, h => by simp only [u8s, Option.some.injEq] at h; subst h; exact ⟨[], rfl, rfl, by simp⟩
 | x :: r, s, h => by
   obtain ⟨n, s', rfl, h1, rfl⟩ := u8s_cons h
   obtain ⟨ns, h2, rfl, h3⟩ := u8s_ints h1
   refine ⟨n :: ns, by simp [h2], rfl, fun j hj => ?_⟩
   cases j with
   | zero => simp
   | succ j =>
     have := h3 j (by simpa using hj)
     simpa using this
theorem good_conv {Γ : Ctx} {st : St} {a : Act} {as : List Act} (S : Sim Γ st a as β w) (src dst : TypeId) {x : D} {vx : Value} (hx : RVD w (Im Γ β st.h w) β x vx) (h : (evConv Γ.P st src dst x).ok K) :
 Good2 Γ.P w (Im Γ β st.h w) β (convert src dst vx) K := by
 unfold evConv at h
 split at h
 ·exact h.elim
 ·rename_i k k' n hd hne
  simp only [RVD, RV] at hx; subst hx
  obtain ⟨d, hs⟩ := underlying_some (P := Γ.P) (t := src) (fun e => hne e)
  exact Good2.dat (v := .int k (k.wrap n)) (by simp [convert, run_underlying hs, run_underlying (underlying_int hd), Conv.intToInt]) (by simp only [RV]) h
 ·rename_i s hd hne
  simp only [RVD, RV] at hx; subst hx
  obtain ⟨d, hs⟩ := underlying_some (P := Γ.P) (t := src) (fun e => hne e)
  exact Good2.dat (v := .string ⟨s.toArray⟩) (by simp [convert, run_underlying hs, run_underlying (underlying_str hd)]) (by simp only [RV]) h
 ·rename_i _ e hs hd _
  split at h
  ·rename_i xs he hrd
   split at h
   ·rename_i s hu
    obtain ⟨ns, hl, rfl, hn⟩ := u8s_ints hu
    obtain ⟨ad, n, c, rfl, rfl, hnc, hc⟩ := S.rd hx hrd
    have hsrc := underlying_slice (P := Γ.P) hs
    have hel := underlying_int (P := Γ.P) he
    have hds := underlying_str (P := Γ.P) hd
    refine Good2.dat (v := .string (strOfNums ns)) ?_ (by simp only [RV, strOfNums]) h
    rcases hc with hc | ⟨b, o, sz, rfl, hz, hlen, hcells⟩
    ·subst hc
     have : ns = [] := List.eq_nil_of_length_eq_zero (by simpa using hl)
     subst this
     cases ad with
     | none => exact run_convert_bytes_nil (P := Γ.P) w src e hsrc hel 0 c dst hds
     | some ad =>
       have hr := run_convert_bytes_string w src dst e (.some ad) 0 c hsrc hel hds
       rw [List.length_nil, hr]
       simp [Conv.bytesToString, loadCells, loadCellsFrom, strOfNums]
       rfl
    ·refine run_convert_bytes_arg (P := Γ.P) w src e hsrc hel b o _ c ns hl (fun i hi => ?_) dst hds
     obtain ⟨_, u, hu', hr⟩ := hcells i _ (hn i (by omega))
     simp only [RV] at hr
     rw [hu', hr]
   ·exact h.elim
  ·exact h.elim
 ·exact h.elim
end
end Go.Proofs.YtpajpkbipagjpaaGreatDoor.Vm
namespace Go.Proofs.YtpajpkbipagjpaaGreatDoor.Vm
open Go Go.RowKit
section
variable {Γ : Ctx} {st : St} {a : Act} {as : List Act} {β : Nat → Pl} {w : World} {K : D → St → Prop}
theorem Mut.block {l : Nat} {B : Blk} {b o : Nat} (h : Mut β l B b o) : ∃ c sz, β l = .blk b c sz := by
 cases B with
 | cells cs fz => exact h.2
 | arr e sz xs fz => obtain ⟨c, s, h, _⟩ := h; exact ⟨c, s, h⟩
 | loop => exact h
 | defer => exact h
theorem Sim.im (S : Sim Γ st a as β w) {l : Nat} {B : Blk} {b c sz o : Nat} (hf : find st.h l = some B) (hb : β l = .blk b c sz) (hm : ¬ Mut β l B b o) : Im Γ β st.h w b o := by
 refine .inr ⟨(S.lt hf hb).2, (S.lt hf hb).1, fun k B' hk hmu => ?_⟩
 obtain ⟨c', s', hb'⟩ := hmu.block
 have := S.apart k l B' B b c' c s' sz hk hf hb' hb
 subst this
 rw [hf] at hk; cases hk
 exact hm hmu
theorem find_setB {l : Nat} {B B' : Blk} (hf : find st.h l = some B) : find (st.setB l B').h l = some B' := by
 simp only [St.setB, find_hSet, if_true, hf, Option.map_some]
theorem Sim.frzRow (S : Sim Γ st a as β w) {l o n e sz fz : Nat} {xs : List (List Data)} {v : Value} (hf : find st.h l = some (.arr e sz xs fz)) (hv : RVD w (Im Γ β st.h w) β (.sl l o n) v) (hn : o + n ≤ xs.length) :
 RV w (Im Γ β (st.setB l (.arr e sz xs xs.length)).h w) (.lst ((xs.drop o).take n)) v := by
 have S' := S.frz hf
 have hf' : find (st.setB l (.arr e sz xs xs.length)).h l = some (.arr e sz xs xs.length) := find_setB hf
 obtain ⟨p1, p2, p3, p4⟩ := S'.heap l _ hf'
 simp only [RVD] at hv
 simp only [RV]
 have hl : ((xs.drop o).take n).length = n := by simp; omega
 rcases hv with ⟨hb, rfl, rfl, a, rfl⟩ | ⟨b, c, sz', ad, hb, hle, rfl, had⟩
 ·exact ⟨a, 0, 0, rfl, by simp, Nat.le_refl _, .inl (by simp)⟩
 ·rcases p4 with ⟨q, _⟩ | ⟨b', cap, cur, hb', hge, hh, hn', hm, hcs, hcells⟩
  ·rw [hb] at q; cases q
  ·rw [hb] at hb'; injection hb' with e1 e2 e3; subst e1 e2 e3
   refine ⟨ad, n, c - o, rfl, hl.symm, by omega, ?_⟩
   by_cases hn0 : n = 0
   ·exact .inl (by rw [hn0]; simp)
   ·right
    have had' : ad = some ⟨b, o * sz', none⟩ := by
     rcases had with g | g
     ·exact g
     ·omega
    refine ⟨b, o * sz', sz', had', p1, RE.mk fun i x hi => ?_⟩
    obtain ⟨hi1, hi2⟩ := getElem?_take_lt hi
    rw [List.getElem?_drop] at hi1
    have hio := (List.getElem?_eq_some_iff.1 hi1).1
    have hxl : x.length = sz' := p3 x (List.mem_of_getElem? hi1)
    refine ⟨hxl, RC.mk fun j d hj => ?_⟩
    have hjl := (List.getElem?_eq_some_iff.1 hj).1
    have hflat : xs.flatten[(o + i) * sz' + j]? = some d := by
     rw [flatten_get p3 hio (by omega), ← hj]
     rw [List.getElem?_eq_getElem hio] at hi1
     rw [Option.some.inj hi1]
    obtain ⟨h1, u, hu, hr⟩ := hcells _ d hflat
    have hoff : o * sz' + i * sz' + j = (o + i) * sz' + j := by rw [Nat.add_mul]
    refine ⟨u, ?_, ?_, h1, hr⟩
    ·rw [hoff]
     simp only [World.cell?, hh, Option.isSome_none, Bool.false_eq_true, if_false]
     exact hu
    ·rw [hoff]
     refine S'.im hf' hb ?_
     rintro ⟨c2, s2, hb2, hle2⟩
     rw [hb] at hb2; injection hb2 with _ _ e; subst e
     have : (o + i + 1) * sz' ≤ xs.length * sz' := Nat.mul_le_mul_right _ hio
     rw [Nat.add_mul (o + i)] at this
     omega
theorem Sim.frzBox (S : Sim Γ st a as β w) {l : Nat} {cs : List D} {fz : Bool} {ds : List Data} {v : Value} (hf : find st.h l = some (.cells cs fz)) (hv : RVD w (Im Γ β st.h w) β (.ref l 0) v) (hd : datasOf cs = some ds) (h1 : ds.all Data.one = true) :
 RV w (Im Γ β (st.setB l (.cells cs true)).h w) (.ptr ds) v := by
 have S' := S.frz hf
 have hf' : find (st.setB l (.cells cs true)).h l = some (.cells cs true) := find_setB hf
 obtain ⟨b, c, sz, cur, e, hb, hge, hh, hc⟩ := S'.heap l _ hf'
 simp only [RVD] at hv
 obtain ⟨b', c', sz', hb', rfl⟩ := hv
 rw [hb] at hb'; injection hb' with e1 e2 e3; subst e1
 simp only [RV]
 refine ⟨b, 0, rfl, RC.mk fun j d hj => ?_⟩
 obtain ⟨u, hu, hr⟩ := (datasOf_ok hc hd).at j d hj
 refine ⟨u, ?_, ?_, List.all_eq_true.1 h1 _ (List.mem_of_getElem? hj), hr⟩
 ·simp only [World.cell?, hh, Option.isSome_none, Bool.false_eq_true, if_false, Nat.zero_add]
  simpa using hu
 ·refine S'.im hf' hb ?_
  rintro ⟨h, _⟩
  cases h
theorem Sim.frzElem (S : Sim Γ st a as β w) {l i e sz fz : Nat} {xs : List (List Data)} {v : Value} (hf : find st.h l = some (.arr e sz xs fz)) (hv : RVD w (Im Γ β st.h w) β (.eref l i 0) v) (hi : i < xs.length) :
 RV w (Im Γ β (st.setB l (.arr e sz xs xs.length)).h w) (.ptr (xs.getD i [])) v := by
 have S' := S.frz hf
 have hf' : find (st.setB l (.arr e sz xs xs.length)).h l = some (.arr e sz xs xs.length) := find_setB hf
 obtain ⟨p1, p2, p3, p4⟩ := S'.heap l _ hf'
 simp only [RVD] at hv
 obtain ⟨b, c, sz', hb, rfl⟩ := hv
 rcases p4 with ⟨q, _⟩ | ⟨b', cap, cur, hb', hge, hh, hn', hm, hcs, hcells⟩
 ·rw [hb] at q; cases q
 ·rw [hb] at hb'; injection hb' with e1 e2 e3; subst e1 e2 e3
  have hxi : xs.getD i [] = xs[i] := by simp [List.getD, hi]
  simp only [RV]
  refine ⟨b, _, rfl, RC.mk fun j d hj => ?_⟩
  have hjl := (List.getElem?_eq_some_iff.1 hj).1
  rw [hxi] at hj hjl
  rw [p3 _ (List.getElem_mem hi)] at hjl
  have hflat : xs.flatten[i * sz' + j]? = some d := by rw [flatten_get p3 hi hjl, hj]
  obtain ⟨h1, u, hu, hr⟩ := hcells _ d hflat
  refine ⟨u, ?_, ?_, h1, hr⟩
  ·simp only [World.cell?, hh, Option.isSome_none, Bool.false_eq_true, if_false, Nat.add_zero]
   exact hu
  ·refine S'.im hf' hb ?_
   rintro ⟨c2, s2, hb2, hle2⟩
   rw [hb] at hb2; injection hb2 with _ _ e; subst e
   have : (i + 1) * sz' ≤ xs.length * sz' := Nat.mul_le_mul_right _ hi
   rw [Nat.add_mul] at this
   omega
mutual
def frz (st : St) : D → Option (Data × St)
 | .dat d => some (d, st)
 | .nilsl => some (.lst [], st)
 | .sl l o n => match find st.h l with
   | some (.arr e sz xs _) => if o + n ≤ xs.length then some (.lst ((xs.drop o).take n), st.setB l (.arr e sz xs xs.length)) else none
   | _ => none
 | .ref l 0 => match find st.h l with
   | some (.cells cs _) => match datasOf cs with
     | some ds => if ds.all Data.one then some (.ptr ds, st.setB l (.cells cs true)) else none
     | none => none
   | _ => none
 | .eref l i 0 => match find st.h l with
   | some (.arr e sz xs _) => if i < xs.length then some (.ptr (xs.getD i []), st.setB l (.arr e sz xs xs.length)) else none
   | _ => none
 | .agg cs => match frzs st cs with
   | some (ds, s) => some (.agg ds, s)
   | none => none
 | .fn f [] [] => some (.fn f, st)
 | _ => none
def frzs (st : St) : List D → Option (List Data × St)
 | [] => some ([], st)
 | d :: ds => match frz st d with
   | some (x, s) => match frzs s ds with
     | some (xs, s') => some (x :: xs, s')
     | none => none
   | none => none
end
def After (Γ : Ctx) (st st' : St) (a : Act) (as : List Act) (β : Nat → Pl) (w : World) : Prop := Sim Γ st' a as β w ∧ Keeps w (Im Γ β st.h w) w (Im Γ β st'.h w)
theorem Im.frz (S : Sim Γ st a as β w) {l : Nat} {B : Blk} (hf : find st.h l = some B) : Keeps w (Im Γ β st.h w) w (Im Γ β (st.setB l B.frz).h w) := by
 intro b o h
 refine ⟨?_, rfl⟩
 rcases h with h | ⟨h1, h2, h3⟩
 ·exact .inl h
 ·refine .inr ⟨h1, h2, fun k B2 hB2 hm => ?_⟩
  simp only [St.setB, find_hSet] at hB2
  by_cases e : k = l
  ·subst e
   rw [if_pos rfl, hf] at hB2
   cases hB2
   refine h3 k B hf ?_
   have hB := S.heap k B hf
   cases B with
   | cells cs fz => simp only [Blk.frz, Mut] at hm; exact absurd hm.1 (by simp)
   | arr e sz xs fz =>
     simp only [Blk.frz, Mut] at hm ⊢
     obtain ⟨c, s, e1, e2⟩ := hm
     exact ⟨c, s, e1, Nat.le_trans (Nat.mul_le_mul_right _ hB.2.1) e2⟩
   | loop => exact hm
   | defer => exact hm
  ·rw [if_neg e] at hB2
   exact h3 k B2 hB2 hm
mutual
theorem frz_ok : ∀ (d : D) {st st' : St} (S : Sim Γ st a as β w) {v : Value} {x : Data}, RVD w (Im Γ β st.h w) β d v → frz st d = some (x, st') → After Γ st st' a as β w ∧ RV w (Im Γ β st'.h w) x v
 | .dat d, st, st', S, v, x, hv, h => by
   simp only [frz, Option.some.injEq, Prod.mk.injEq] at h
   obtain ⟨rfl, rfl⟩ := h
   exact ⟨⟨S, Keeps.refl _ _⟩, by simpa only [RVD] using hv⟩
 | .nilsl, st, st', S, v, x, hv, h => by
   simp only [frz, Option.some.injEq, Prod.mk.injEq] at h
   obtain ⟨rfl, rfl⟩ := h
   exact ⟨⟨S, Keeps.refl _ _⟩, dataOf_ok (d := .nilsl) hv rfl⟩
 | .sl l o n, st, st', S, v, x, hv, h => by
   simp only [frz] at h
   split at h
   ·rename_i e sz xs fz hf
    split at h
    ·rename_i hle
     simp only [Option.some.injEq, Prod.mk.injEq] at h
     obtain ⟨rfl, rfl⟩ := h
     exact ⟨⟨S.frz hf, Im.frz S hf⟩, S.frzRow hf hv hle⟩
    ·cases h
   ·cases h
 | .ref l 0, st, st', S, v, x, hv, h => by
   simp only [frz] at h
   split at h
   ·rename_i cs fz hf
    split at h
    ·rename_i ds hd
     split at h
     ·rename_i h1
      simp only [Option.some.injEq, Prod.mk.injEq] at h
      obtain ⟨rfl, rfl⟩ := h
      exact ⟨⟨S.frz hf, Im.frz S hf⟩, S.frzBox hf hv hd h1⟩
     ·cases h
    ·cases h
   ·cases h
 | .ref l (o + 1), st, st', S, v, x, hv, h => by simp [frz] at h
 | .eref l i 0, st, st', S, v, x, hv, h => by
   simp only [frz] at h
   split at h
   ·rename_i e sz xs fz hf
    split at h
    ·rename_i hi
     simp only [Option.some.injEq, Prod.mk.injEq] at h
     obtain ⟨rfl, rfl⟩ := h
     exact ⟨⟨S.frz hf, Im.frz S hf⟩, S.frzElem hf hv hi⟩
    ·cases h
   ·cases h
 | .eref l i (o + 1), st, st', S, v, x, hv, h => by simp [frz] at h
 | .agg cs, st, st', S, v, x, hv, h => by
   simp only [frz] at h
   split at h
   ·rename_i ds s hs
    simp only [Option.some.injEq, Prod.mk.injEq] at h
    obtain ⟨rfl, rfl⟩ := h
    simp only [RVD] at hv
    obtain ⟨vs, rfl, hvs⟩ := hv
    obtain ⟨A, hr⟩ := frzs_ok cs S hvs hs
    exact ⟨A, by simp only [RV]; exact ⟨vs, rfl, hr⟩⟩
   ·cases h
 | .fn f [] [], st, st', S, v, x, hv, h => by
   simp only [frz, Option.some.injEq, Prod.mk.injEq] at h
   obtain ⟨rfl, rfl⟩ := h
   refine ⟨⟨S, Keeps.refl _ _⟩, ?_⟩
   simp only [RVD, RVDs] at hv
   obtain ⟨vs, us, rfl, h1, h2⟩ := hv
   simp only [RV]
   rw [Array.toList_eq_nil_iff] at h1 h2
   rw [h1, h2]
 | .fn f (_ :: _) _, st, st', S, v, x, hv, h => by simp [frz] at h
 | .fn f [] (_ :: _), st, st', S, v, x, hv, h => by simp [frz] at h
 | .junk, st, st', S, v, x, hv, h => by simp [frz] at h
 | .tup _, st, st', S, v, x, hv, h => by simp [frz] at h
 | .yld _, st, st', S, v, x, hv, h => by simp [frz] at h
theorem frzs_ok : ∀ (ds : List D) {st st' : St} (S : Sim Γ st a as β w) {vs : List Value} {xs : List Data}, RVDs w (Im Γ β st.h w) β ds vs → frzs st ds = some (xs, st') → After Γ st st' a as β w ∧ RVs w (Im Γ β st'.h w) xs vs
 | [], st, st', S, vs, xs, hv, h => by
   simp only [frzs, Option.some.injEq, Prod.mk.injEq] at h
   obtain ⟨rfl, rfl⟩ := h
   exact ⟨⟨S, Keeps.refl _ _⟩, hv⟩
 | d :: ds, st, st', S, vs, xs, hv, h => by
   simp only [frzs] at h
   split at h
   ·rename_i x s hx
    split at h
    ·rename_i ys s' hy
     simp only [Option.some.injEq, Prod.mk.injEq] at h
     obtain ⟨rfl, rfl⟩ := h
     simp only [RVDs] at hv
     obtain ⟨u, r, rfl, h1, h2⟩ := hv
     obtain ⟨⟨S1, K1⟩, hr1⟩ := frz_ok d S h1 hx
     obtain ⟨⟨S2, K2⟩, hr2⟩ := frzs_ok ds S1 (RVDs.keeps K1 _ _ h2) hy
     simp only [RVs]
     exact ⟨⟨S2, K1.trans K2⟩, u, r, rfl, RV.keeps K2 _ _ hr1, hr2⟩
    ·cases h
   ·cases h
end
end
end Go.Proofs.YtpajpkbipagjpaaGreatDoor.Vm
namespace Go.Proofs.YtpajpkbipagjpaaGreatDoor.Vm
open Go Go.RowKit
section
variable {Γ : Ctx} {st : St} {a : Act} {as : List Act} {β : Nat → Pl} {w : World} {K : D → St → Prop}
def fillD (place : Nat → Option (Nat × Nat)) : List D → List (Nat × D) → Option (List D)
 | cs, [] => some cs
 | cs, p :: ps =>
   match place p.1, cellsD p.2 with
   | some (off, size), some vs => if vs.length = size ∧ off + size ≤ cs.length then fillD place (splice cs off vs) ps else none
   | _, _ => none
theorem foldl_set (off : Nat) : ∀ (vs : List Value) (k : Nat) (cs : Array Value), off + k + vs.length ≤ cs.size →
 ((vs.zipIdx k).foldl (fun cs (x : Value × Nat) => cs.setIfInBounds (off + x.2) x.1) cs).toList = cs.toList.take (off + k) ++ vs ++ cs.toList.drop (off + k + vs.length)
 | [], k, cs, h => by simp
 | v :: vs, k, cs, h => by
   simp only [List.zipIdx_cons, List.foldl_cons]
   simp at h
   rw [foldl_set off vs (k + 1) _ (by simp; omega)]
   have hk : off + k < cs.toList.length := by simp; omega
   have e1 : (cs.setIfInBounds (off + k) v).toList = cs.toList.set (off + k) v := by simp
   have t1 : (cs.toList.set (off + k) v).take (off + (k + 1)) = cs.toList.take (off + k) ++ [v] := by
    rw [show off + (k + 1) = off + k + 1 by omega, List.take_succ_eq_append_getElem (by simpa using hk), List.take_set_of_le (Nat.le_refl _)]
    simp
   have t2 : (cs.toList.set (off + k) v).drop (off + (k + 1) + vs.length) = cs.toList.drop (off + k + (v :: vs).length) := by
    rw [List.drop_set_of_lt (by omega)]
    congr 1
    simp; omega
   rw [e1, t1, t2]
   simp
theorem fill_ok {w : World} {I : Cset} {place : Nat → Option (Nat × Nat)} : ∀ {ps : List (Nat × D)} {vs : List (Nat × Value)} {cs ds : List D} {us : Array Value},
 ps.length = vs.length → (∀ (j : Nat) (p : Nat × D) (q : Nat × Value), ps[j]? = some p → vs[j]? = some q → p.1 = q.1 ∧ RVD w I β p.2 q.2) → RVDs w I β cs us.toList → fillD place cs ps = some ds →
 ∃ us', Instr.fill place us vs = some us' ∧ RVDs w I β ds us'.toList
 | [], [], cs, ds, us, _, _, hc, h => by
   simp only [fillD, Option.some.injEq] at h; subst h
   exact ⟨us, rfl, hc⟩
 | [], q :: vs, cs, ds, us, hl, _, hc, h => by simp at hl
 | p :: ps, [], cs, ds, us, hl, _, hc, h => by simp at hl
 | (i, d) :: ps, (i', v) :: vs, cs, ds, us, hl, hp, hc, h => by
   obtain ⟨he, hr⟩ := hp 0 _ _ rfl rfl
   simp only at he hr
   subst he
   simp only [fillD] at h
   split at h
   ·rename_i off size xs h1 h2
    split at h
    ·rename_i hsz
     obtain ⟨hs1, hs2⟩ := hsz
     have hx := cellsD_ok hr h2
     have hxl := hx.length
     have hcl := hc.length
     simp only [Instr.fill, h1]
     have c1 : ¬ ((v.cells.size ≠ size || off + v.cells.size > us.size : Bool) = true) := by
      simp at hxl hcl ⊢
      exact ⟨by omega, by omega⟩
     have c1' : ¬ (decide (v.cells.size ≠ size) || decide (off + v.cells.size > us.size)) = true := by simpa using c1
     rw [if_neg c1']
     have hf : ((v.cells.zipIdx).foldl (fun cs (x : Value × Nat) => cs.setIfInBounds (off + x.2) x.1) us).toList = us.toList.take off ++ v.cells.toList ++ us.toList.drop (off + v.cells.toList.length) := by
      have := foldl_set off v.cells.toList 0 us (by simp at hxl hcl ⊢; omega)
      rw [← Array.foldl_toList, Array.toList_zipIdx]
      simpa using this
     refine fill_ok (by simpa using hl) (fun j p q hj hq => hp (j + 1) p q (by simpa using hj) (by simpa using hq)) ?_ h
     rw [hf]
     have := ((hc.take off).append hx).append (hc.drop (off + v.cells.toList.length))
     rw [hxl] at this
     rw [hxl]
     exact this
    ·cases h
   ·cases h
def partsD (E : Env) (st : St) (ps : List (Nat × Operand)) : List (Nat × D) := ps.map fun p => (p.1, evO E st p.2)
def evBuild (E : Env) (st : St) (t : TypeId) (ps : List (Nat × Operand)) : Res :=
 match zeroT E.P t, kindT E.P t with
 | some zs, .struct fs => match fillD (fun i => (fs[i]?).map fun f => (f.1, szT E.P f.2)) zs (partsD E st ps) with
   | some cs => .req (∀ f ∈ fs, kindT E.P f.2 ≠ .other) (.val (.agg cs))
   | none => .stop
 | some zs, .arr _ e => match fillD (fun i => some (i * szT E.P e, szT E.P e)) zs (partsD E st ps) with
   | some cs => .req (kindT E.P e ≠ .other) (.val (.agg cs))
   | none => .stop
 | _, _ => .stop
theorem zeroT_ok {P : Program} {w : World} {I : Cset} {t : TypeId} {zs : List D} (h : zeroT P t = some zs) : ∃ z, (zeroValue t).run P w = .ok z w ∧ RVDs w I β zs z.cells.toList ∧ ∃ i, P.info? t = some i ∧ i.zero = some z := by
 unfold zeroT at h
 obtain ⟨i, hi, hz⟩ := Option.bind_eq_some_iff.1 h
 obtain ⟨z, hz1, rfl⟩ := Option.map_eq_some_iff.1 hz
 exact ⟨z, by simp [zeroValue, typeInfo, hi, hz1], constDs_ok _, i, hi, hz1⟩
theorem parts_ok (S : Sim Γ st a as β w) (ps : List (Nat × Operand)) : (partsD Γ.toEnv st ps).length = (ps.map fun p => (p.1, a.eval p.2)).length ∧
 ∀ (j : Nat) (p : Nat × D) (q : Nat × Value), (partsD Γ.toEnv st ps)[j]? = some p → (ps.map fun p => (p.1, a.eval p.2))[j]? = some q → p.1 = q.1 ∧ RVD w (Im Γ β st.h w) β p.2 q.2 := by
 refine ⟨by simp [partsD], fun j p q hp hq => ?_⟩
 simp only [partsD, List.getElem?_map] at hp hq
 obtain ⟨x, hx, rfl⟩ := Option.map_eq_some_iff.1 hp
 rw [hx] at hq
 simp at hq; subst hq
 exact ⟨rfl, S.eval x.2⟩
theorem mapM_places {P : Program} {w : World} : ∀ (gs : List Field), (∀ g ∈ gs, kindT P g.type ≠ .other) → ((gs.mapM fun f => (do pure (f.offset, ← sizeOf f.type) : Sem (Nat × Nat))) : Sem (List (Nat × Nat))).run P w = .ok (gs.map fun f => (f.offset, szT P f.type)) w
 | [], _ => by simp
 | g :: gs, h => by
   have ih := mapM_places (P := P) (w := w) gs fun x hx => h x (by simp [hx])
   simp only [List.mapM_cons, Sem.run_bind, run_sizeOf w (h g (by simp)), Result.andThen_ok, Sem.run_pure, ih, List.map_cons]
theorem good_build (S : Sim Γ st a as β w) (t : TypeId) (ps : List (Nat × Operand)) (h : (evBuild Γ.toEnv st t ps).ok st K) : Good Γ a as (Instr.build t (ps.map fun p => (p.1, a.eval p.2)).toArray) w K := by
 unfold evBuild at h
 obtain ⟨hl, hp⟩ := parts_ok S ps
 split at h
 ·rename_i zs fs hz hk
  split at h
  ·rename_i cs hf
   obtain ⟨hne, hk'⟩ := h
   obtain ⟨gs, hu, hm⟩ := underlying_struct (P := Γ.P) hk
   obtain ⟨z, hrun, hzr, _⟩ := zeroT_ok (w := w) (I := Im Γ β st.h w) (β := β) hz
   have hplace : (fun (i : Nat) => (fs[i]?).map fun (f : Nat × TypeId) => (f.1, szT Γ.P f.2)) = fun i => ((gs.map fun f => (f.offset, szT Γ.P f.type)))[i]? := by
    funext i
    rw [← hm]
    simp
    cases gs[i]? <;> rfl
   have hf' : fillD (fun (i : Nat) => (fs[i]?).map fun (f : Nat × TypeId) => (f.1, szT Γ.P f.2)) zs (partsD Γ.toEnv st ps) = some cs := hf
   rw [hplace] at hf'
   obtain ⟨us, hus, hr⟩ := fill_ok hl hp hzr hf'
   have hmap : ((gs.mapM fun f => (do pure (f.offset, ← sizeOf f.type) : Sem (Nat × Nat))) : Sem (Array (Nat × Nat))).run Γ.P w = .ok (gs.map fun f => (f.offset, szT Γ.P f.type)) w := by
    rw [Array.mapM_eq_mapM_toList]
    have hg : ∀ g ∈ gs.toList, kindT Γ.P g.type ≠ .other := fun g hg => hne (g.offset, g.type) (by rw [← hm]; exact List.mem_map.2 ⟨g, hg, rfl⟩)
    rw [Sem.run_map, mapM_places (P := Γ.P) (w := w) gs.toList hg]
    simp
    apply Array.ext'
    simp
   refine Good.val S (v := .agg us) ?_ (by simp only [RVD]; exact ⟨us, rfl, hr⟩) hk'
   simp only [Instr.build, Sem.run_bind, hrun, Result.andThen_ok, run_underlying hu, hmap]
   simp only [hus, Sem.run_pure]
  ·exact h.elim
 ·rename_i zs n e hz hk
  split at h
  ·rename_i cs hf
   obtain ⟨hne, hk'⟩ := h
   have hu := underlying_arr (P := Γ.P) hk
   obtain ⟨z, hrun, hzr, _⟩ := zeroT_ok (w := w) (I := Im Γ β st.h w) (β := β) hz
   obtain ⟨us, hus, hr⟩ := fill_ok hl hp hzr hf
   refine Good.val S (v := .agg us) ?_ (by simp only [RVD]; exact ⟨us, rfl, hr⟩) hk'
   have hne : kindT Γ.P e ≠ .other := hne
   simp only [Instr.build, Sem.run_bind, hrun, Result.andThen_ok, run_underlying hu, run_sizeOf w hne]
   have : (fun i => some (i * szT Γ.toEnv.P e, szT Γ.toEnv.P e)) = fun i => some (i * szT Γ.P e, szT Γ.P e) := rfl
   simp only [hus, Sem.run_pure]
  ·exact h.elim
 ·exact h.elim
end
end Go.Proofs.YtpajpkbipagjpaaGreatDoor.Vm
namespace Go.Proofs.YtpajpkbipagjpaaGreatDoor.Vm
open Go Go.RowKit
section
variable {Γ : Ctx} {st : St} {a : Act} {as : List Act} {β : Nat → Pl} {w : World} {K : D → St → Prop}
def chunks (sz : Nat) : Nat → List Data → List (List Data)
 | 0, _ => []
 | n + 1, ds => ds.take sz :: chunks sz n (ds.drop sz)
theorem chunks_ok {sz : Nat} : ∀ {n : Nat} {ds : List Data}, ds.length = n * sz → (chunks sz n ds).length = n ∧ (∀ x ∈ chunks sz n ds, x.length = sz) ∧ (chunks sz n ds).flatten = ds
 | 0, ds, h => by
   have : ds = [] := List.eq_nil_of_length_eq_zero (by simpa using h)
   subst this; simp [chunks]
 | n + 1, ds, h => by
   rw [Nat.add_mul] at h
   obtain ⟨h1, h2, h3⟩ := chunks_ok (sz := sz) (n := n) (ds := ds.drop sz) (by simp; omega)
   refine ⟨by simp [chunks, h1], fun x hx => ?_, by simp [chunks, h3]⟩
   simp only [chunks, List.mem_cons] at hx
   rcases hx with rfl | hx
   ·simp; omega
   ·exact h2 x hx
def initD (zs : List D) (sz n : Nat) : List D := (List.range (n * sz)).map fun j => zs.getD (j % sz) .junk
def evBuildSlice (E : Env) (st : St) (site : Nat) (t : TypeId) (n : Nat) (ps : List (Nat × Operand)) : Res :=
 match kindT E.P t with
 | .slice e => match zeroT E.P e with
   | some zs => match fillD (fun i => some (i * szT E.P e, szT E.P e)) (initD zs (szT E.P e) n) (partsD E st ps) with
     | some cs => match frzs st cs with
       | some (ds, st') => .req (kindT E.P e ≠ .other ∧ zs.length = szT E.P e ∧ 0 < szT E.P e ∧ n * szT E.P e ≤ 16777216 ∧ ds.all Data.one = true ∧ st'.noMark site ∧ ds.length = n * szT E.P e)
        (.st (.sl site 0 n) (st'.add site (.arr e (szT E.P e) (chunks (szT E.P e) n ds) 0)))
       | none => .stop
     | none => .stop
   | none => .stop
 | _ => .stop
theorem good_buildSlice (S : Sim Γ st a as β w) (site : Nat) (t : TypeId) (n : Nat) (ps : List (Nat × Operand)) (h : (evBuildSlice Γ.toEnv st site t n ps).ok st K) :
 Good Γ a as (Instr.buildSlice t n (ps.map fun p => (p.1, a.eval p.2)).toArray) w K := by
 unfold evBuildSlice at h
 obtain ⟨hl, hp⟩ := parts_ok S ps
 split at h
 ·rename_i e hk
  have hu := underlying_slice (P := Γ.P) hk
  split at h
  ·rename_i zs hz
   split at h
   ·rename_i cs hf
    split at h
    ·rename_i ds st' hfr
     obtain ⟨⟨hne, hzl, hpos, hmax, hone, hnm, hdl⟩, hk'⟩ := h
     have hne : kindT Γ.P e ≠ .other := hne
     have hzl : zs.length = szT Γ.P e := hzl
     have hpos : 0 < szT Γ.P e := hpos
     have hmax : n * szT Γ.P e ≤ 16777216 := hmax
     have hdl : ds.length = n * szT Γ.P e := hdl
     obtain ⟨z, hrun, hzr, _⟩ := zeroT_ok (w := w) (I := Im Γ β st.h w) (β := β) hz
     have hzl2 := hzr.length
     have hzc : z.cells.size = szT Γ.P e := by simp at hzl2; omega
     have hinit : ∀ u : Array Value, (n * szT Γ.P e = 0 → u = #[]) → (n * szT Γ.P e ≠ 0 → u = z.cells) → RVDs w (Im Γ β st.h w) β (initD zs (szT Γ.P e) n) ((Array.range (n * szT Γ.P e)).map (u[· % u.size]!)).toList := by
      intro u h0 h1
      refine RVDs.mk (by simp [initD]) fun j d v hj hv => ?_
      simp only [initD, List.getElem?_map] at hj
      obtain ⟨j', hj', rfl⟩ := Option.map_eq_some_iff.1 hj
      have hlt := (List.getElem?_eq_some_iff.1 hj').1
      simp at hlt
      have : j' = j := by rw [List.getElem?_range hlt] at hj'; exact (Option.some.inj hj').symm
      subst this
      have hu2 := h1 (by omega)
      subst hu2
      have hm := Nat.mod_lt j' hpos
      obtain ⟨v', hv', hr⟩ := hzr.at (j' % szT Γ.P e) zs[j' % szT Γ.P e] (List.getElem?_eq_getElem (by omega))
      have e1 : v = v' := by
       have e2 : z.cells[j' % z.cells.size]! = v' := by
        rw [hzc]
        have : z.cells[j' % szT Γ.P e]? = some v' := by simpa using hv'
        rw [getElem!_def, this]
       simp only [Array.toList_map, Array.toList_range, List.getElem?_map, List.getElem?_range hlt, Option.map_some, Option.some.injEq] at hv
       rw [← hv, e2]
      subst e1
      simpa [List.getD, show j' % szT Γ.P e < zs.length by omega] using hr
     have fin : ∀ u : Array Value, (n * szT Γ.P e = 0 → u = #[]) → (n * szT Γ.P e ≠ 0 → u = z.cells) →
      (Instr.buildSlice t n (ps.map fun p => (p.1, a.eval p.2)).toArray).run Γ.P w = (match Instr.fill (fun i => some (i * szT Γ.P e, szT Γ.P e)) ((Array.range (n * szT Γ.P e)).map (u[· % u.size]!)) (ps.map fun p => (p.1, a.eval p.2)) with
       | some cells => .ok (.slice (some ⟨w.heap.size, 0, none⟩) n n) (w.alloc (.cells cells e))
       | none => .halt (.stuck "buildSlice: a part of the wrong size") w) := by
      intro u h0 h1
      have hmx : ¬ n * szT Γ.P e > 2 ^ 24 := by omega
      simp only [Instr.buildSlice, Sem.run_bind, run_underlying hu, run_sizeOf w hne, Result.andThen_ok, if_neg hmx, Sem.run_pure]
      by_cases hc : n * szT Γ.P e = 0
      ·rw [if_pos hc, h0 hc]
       simp only [Sem.run_bind, Sem.run_pure, Result.andThen_ok]
       generalize Instr.fill (fun i => some (i * szT Γ.P e, szT Γ.P e)) _ _ = X
       cases X <;> simp [newRow]
      ·rw [if_neg hc, h1 hc]
       simp only [Sem.run_bind, hrun, Sem.run_pure, Result.andThen_ok]
       generalize Instr.fill (fun i => some (i * szT Γ.P e, szT Γ.P e)) _ _ = X
       cases X <;> simp [newRow]
     obtain ⟨u, hu0, hu1⟩ : ∃ u : Array Value, (n * szT Γ.P e = 0 → u = #[]) ∧ (n * szT Γ.P e ≠ 0 → u = z.cells) := by
      by_cases hc : n * szT Γ.P e = 0
      ·exact ⟨#[], fun _ => rfl, fun h => absurd hc h⟩
      ·exact ⟨z.cells, fun h => absurd h hc, fun _ => rfl⟩
     obtain ⟨us, hus, hr⟩ := fill_ok hl hp (hinit u hu0 hu1) hf
     have hrun2 := fin u hu0 hu1
     rw [hus] at hrun2
     obtain ⟨⟨S', K'⟩, hrs⟩ := frzs_ok cs S hr hfr
     obtain ⟨c1, c2, c3⟩ := chunks_ok hdl
     have hul := hrs.length
     have hn' : n ≤ 16777216 := Nat.le_trans (Nat.le_mul_of_pos_right n hpos) hmax
     refine ⟨_, _, _, _, _, hrun2, S'.row site e (szT Γ.P e) 0 n (chunks (szT Γ.P e) n ds) us hnm hpos (Nat.zero_le _) c2 (by omega) (by simp only [maxLen]; omega) (by simp at hul; omega) ?_, RVD.row (upd_same _ _ _) (Nat.le_refl _), hk'⟩
     intro j d hj
     rw [c3] at hj
     obtain ⟨v, hv, hrv⟩ := hrs.at j d hj
     exact ⟨List.all_eq_true.1 hone _ (List.mem_of_getElem? hj), v, by simpa using hv, hrv⟩
    ·exact h.elim
   ·exact h.elim
  ·exact h.elim
 ·exact h.elim
def evMake (E : Env) (st : St) (site : Nat) (t : TypeId) (len cap : D) : Res :=
 match kindT E.P t, len, cap with
 | .slice e, .dat (.int _ l), .dat (.int _ c) => match (zeroT E.P e).bind datasOf with
   | some zs => .req (kindT E.P e ≠ .other ∧ 0 < szT E.P e ∧ zs.length = szT E.P e ∧ zs.all Data.one = true ∧ 0 ≤ l ∧ l ≤ c ∧ c * bytesT E.P e ≤ 281474976710656 ∧ c ≤ 140737488355328 ∧ st.noMark site)
    (.st (.sl site 0 l.toNat) (st.add site (.arr e (szT E.P e) (List.replicate l.toNat zs) 0)))
   | none => .stop
 | _, _, _ => .stop
theorem good_make (S : Sim Γ st a as β w) (site : Nat) (t : TypeId) {x y : D} {vx vy : Value} (hx : RVD w (Im Γ β st.h w) β x vx) (hy : RVD w (Im Γ β st.h w) β y vy) (h : (evMake Γ.toEnv st site t x y).ok st K) :
 Good Γ a as (Instr.makeSlice t vx vy) w K := by
 unfold evMake at h
 split at h
 ·rename_i e k1 l k2 c hk
  have hu := underlying_slice (P := Γ.P) hk
  split at h
  ·rename_i zs hz
   obtain ⟨⟨hne, hpos, hzl, hone, h0, h1, h2, h3, hnm⟩, hk'⟩ := h
   have hne : kindT Γ.P e ≠ .other := hne
   have hpos : 0 < szT Γ.P e := hpos
   have hzl : zs.length = szT Γ.P e := hzl
   have h2 : c * bytesT Γ.P e ≤ 281474976710656 := h2
   simp only [RVD, RV] at hx hy
   subst hx hy
   obtain ⟨zd, hz1, hz2⟩ := Option.bind_eq_some_iff.1 hz
   obtain ⟨z, hrun, hzr, i, hi, hiz⟩ := zeroT_ok (w := w) (I := Im Γ β st.h w) (β := β) hz1
   have hzs := datasOf_ok hzr hz2
   have hzc : z.cells.size = szT Γ.P e := by have := hzs.length; simp at this; omega
   obtain ⟨d, hd⟩ := underlying_some hne
   obtain ⟨i', hi', _, hb⟩ := info_of_underlying hd
   rw [hi] at hi'; cases hi'
   have w1 : IntKind.i64.wrap l = l := by simp [IntKind.wrap, IntKind.signed, IntKind.bits]; omega
   have w2 : IntKind.i64.wrap c = c := by simp [IntKind.wrap, IntKind.signed, IntKind.bits]; omega
   have hcl : (c.toNat : Int) = c := by omega
   have hrun2 : ∃ u : Array Value, u.size = c.toNat * szT Γ.P e ∧ (∀ j, j < u.size → u[j]? = z.cells[j % szT Γ.P e]?) ∧
    (Instr.makeSlice t (.int k1 l) (.int k2 c)).run Γ.P w = .ok (.slice (some ⟨w.heap.size, 0, none⟩) l.toNat c.toNat) (w.alloc (.cells u e)) := by
    have t1 : ¬ (i.bytes * c > 2 ^ 48 : Prop) := by rw [hb, Int.mul_comm]; omega
    have t2 : ¬ c < 0 := by omega
    have t3 : ¬ l < 0 := by omega
    have t4 : ¬ c < l := by omega
    by_cases hc : c.toNat * szT Γ.P e = 0
    ·refine ⟨#[], by simp [hc], by simp, ?_⟩
     have hc0 : c.toNat = 0 := by
      rcases Nat.mul_eq_zero.1 hc with h | h
      ·exact h
      ·omega
     have : c = 0 := by omega
     subst this
     have : l = 0 := by omega
     subst this
     simp [Instr.makeSlice, asInt, asIntOf, run_underlying hu, typeInfo, hi, w1, run_sizeOf w hne, newRow]
     congr 2
     apply Array.ext'
     simp
    ·refine ⟨(Array.range (c.toNat * szT Γ.P e)).map (z.cells[· % z.cells.size]!), by simp, fun j hj => ?_, ?_⟩
     ·simp at hj
      simp [hj, hzc]
      have hm := Nat.mod_lt j hpos
      rw [getElem!_pos z.cells (j % szT Γ.P e) (by omega), Array.getElem?_eq_getElem (by omega)]
     ·have hzr2 : ∀ w', (zeroValue e).run Γ.P w' = .ok z w' := fun w' => by simp [zeroValue, typeInfo, hi, hiz]
      simp [Instr.makeSlice, asInt, asIntOf, run_underlying hu, typeInfo, hi, w1, w2, t2, t3, t4, run_sizeOf w hne, hc, hzr2, newRow]
      simp [show ¬ (281474976710656 : Int) < i.bytes * c by omega]
   obtain ⟨u, hus, hug, hrun2⟩ := hrun2
   refine ⟨_, _, _, _, _, hrun2, S.row site e (szT Γ.P e) 0 c.toNat (List.replicate l.toNat zs) u hnm hpos (Nat.zero_le _) ?_ ?_ ?_ hus ?_, RVD.row (upd_same _ _ _) (by omega), hk'⟩
   ·intro x hx; rw [List.eq_of_mem_replicate hx]; exact hzl
   ·simp; omega
   ·simp only [maxLen]; omega
   ·intro j d hj
    have hall : ∀ x ∈ List.replicate l.toNat zs, x.length = szT Γ.P e := fun x hx => by rw [List.eq_of_mem_replicate hx]; exact hzl
    have hjl := (List.getElem?_eq_some_iff.1 hj).1
    rw [flatten_length hall, List.length_replicate] at hjl
    have hdm := Nat.div_add_mod j (szT Γ.P e)
    have hml := Nat.mod_lt j hpos
    have hq : j / szT Γ.P e < (List.replicate l.toNat zs).length := by rw [List.length_replicate]; exact Nat.div_lt_of_lt_mul (by rw [Nat.mul_comm]; exact hjl)
    have hj2 : (List.replicate l.toNat zs).flatten[j / szT Γ.P e * szT Γ.P e + j % szT Γ.P e]? = some d := by rw [Nat.mul_comm, hdm]; exact hj
    rw [flatten_get hall hq hml] at hj2
    simp only [List.getElem_replicate] at hj2
    obtain ⟨v, hv, hr⟩ := hzs.at _ d hj2
    have hle : l.toNat * szT Γ.P e ≤ c.toNat * szT Γ.P e := Nat.mul_le_mul_right _ (by omega)
    refine ⟨List.all_eq_true.1 hone _ (List.mem_of_getElem? hj2), v, ?_, hr⟩
    rw [hug j (by omega)]
    simpa using hv
  ·exact h.elim
 ·exact h.elim
def evBytes (E : Env) (src dst : TypeId) (x : D) : Res :=
 match kindT E.P src, kindT E.P dst, x with
 | .other, _, _ => .stop
 | _, .slice e, .dat (.str s) => match kindT E.P e with
   | .int .u8 => .val (.dat (.lst (bytesD s)))
   | _ => .stop
 | _, _, _ => .stop
theorem good_bytes (S : Sim Γ st a as β w) (src dst : TypeId) {x : D} {vx : Value} (hx : RVD w (Im Γ β st.h w) β x vx) (h : (evBytes Γ.toEnv src dst x).ok st K) : Good Γ a as (convert src dst vx) w K := by
 unfold evBytes at h
 split at h
 ·exact h.elim
 ·rename_i e s hd hne
  split at h
  ·rename_i he
   simp only [RVD, RV] at hx; subst hx
   obtain ⟨d, hs⟩ := underlying_some (P := Γ.P) (t := src) (fun e => hne e)
   have hrun := Lib.run_convert_string_bytes (P := Γ.P) w src dst e ⟨s.toArray⟩ hs (underlying_slice hd) (underlying_int he)
   have hsz : (⟨s.toArray⟩ : ByteArray).size = s.length := List.size_toArray
   have hb : Below w.heap.size w (Lib.bytesWorld w e ⟨s.toArray⟩) :=
    ⟨by unfold Lib.bytesWorld World.freeze; split <;> rfl, by unfold Lib.bytesWorld World.freeze; split <;> rfl, by unfold Lib.bytesWorld World.freeze; split <;> rfl, by rw [Lib.bytesWorld_size]; omega, fun i hi => Lib.bytesWorld_at_old w e _ i hi⟩
   obtain ⟨S', K'⟩ := S.called hb
   refine ⟨_, _, β, _, st, hrun, S', ?_, h⟩
   simp only [RVD, RV]
   refine ⟨_, _, _, rfl, by simp [bytesD, hsz], grownCap_ge _ _ _ _, ?_⟩
   right
   refine ⟨w.heap.size, 0, 1, rfl, by omega, RE.mk fun i x hi => ?_⟩
   simp only [bytesD, List.getElem?_map] at hi
   obtain ⟨c, hc, rfl⟩ := Option.map_eq_some_iff.1 hi
   have hil := (List.getElem?_eq_some_iff.1 hc).1
   refine ⟨rfl, RC.mk fun j d hj => ?_⟩
   have : j = 0 := by have := (List.getElem?_eq_some_iff.1 hj).1; simp at this; omega
   subst this
   simp at hj; subst hj
   refine ⟨_, by simpa using Lib.bytesWorld_cell w e ⟨s.toArray⟩ i (by omega), ?_, rfl, ?_⟩
   ·refine .inr ⟨S.below.size, by rw [Lib.bytesWorld_size]; omega, fun k B hk hmu => ?_⟩
    obtain ⟨c', s', hb'⟩ := hmu.block
    have := (S.lt hk hb').1
    omega
   ·simp only [RV]
    rw [List.getElem?_eq_getElem hil] at hc
    simp [List.getD, hil, Option.some.inj hc]
  ·exact h.elim
 ·exact h.elim
end
end Go.Proofs.YtpajpkbipagjpaaGreatDoor.Vm
namespace Go.Proofs.YtpajpkbipagjpaaGreatDoor.Vm
open Go Go.RowKit
def freshN : Nat → Nat → List (Nat × Blk) → Nat
 | 0, n, _ => n
 | k + 1, n, h => match find h n with
   | none => n
   | some _ => freshN k (n + 1) h
def fresh (h : List (Nat × Blk)) : Nat := freshN 40 1 h
def elemT (P : Program) (t : TypeId) : Option (TypeId × Nat) :=
 match kindT P t with
 | .slice e => match P.info? e with
   | some i => match i.zero with
     | some z => if z.cells.size = i.size then if 0 < i.size then some (e, i.size) else none else none
     | none => none
   | none => none
 | _ => none
theorem elemT_ok {P : Program} {t : TypeId} {e sz : Nat} (h : elemT P t = some (e, sz)) : P.underlying t = some (.slice e) ∧ ∃ i z, P.info? e = some i ∧ i.zero = some z ∧ z.cells.size = sz ∧ i.size = sz ∧ 0 < sz ∧ i.bytes = bytesT P e := by
 unfold elemT at h
 split at h
 ·rename_i e' hk
  split at h
  ·rename_i i hi
   split at h
   ·rename_i z hz
    split at h
    ·rename_i h1
     split at h
     ·rename_i h2
      simp only [Option.some.injEq, Prod.mk.injEq] at h
      obtain ⟨rfl, rfl⟩ := h
      exact ⟨underlying_slice hk, i, z, hi, hz, h1, rfl, h2, by simp [bytesT, hi]⟩
     ·cases h
    ·cases h
   ·cases h
  ·cases h
 ·cases h
def evAppendRow (E : Env) (st : St) (t : TypeId) (l n : Nat) (ys : List (List Data)) : Res :=
 match elemT E.P t, find st.h l with
 | some (e, sz), some (.arr e' sz' xs fz) =>
   .req (e = e' ∧ sz = sz' ∧ n ≤ xs.length ∧ fz ≤ n ∧ st.noMark l ∧ (∀ y ∈ ys, y.length = sz) ∧ n + ys.length ≤ maxLen ∧ (n + ys.length) * bytesT E.P e ≤ 140737488355328)
    (.st (.sl l 0 (n + ys.length)) ((st.erase l).add l (.arr e' sz' (xs.take n ++ ys) fz)))
 | _, _ => .stop
def evAppend (E : Env) (st : St) (ts : List TypeId) (xs : List D) : Res :=
 match ts, xs with
 | [t, t'], [x, y] =>
   if t = t' then
    match rdD st y with
    | some ys => match x with
      | .sl l 0 n => evAppendRow E st t l n ys
      | .nilsl => match elemT E.P t with
        | some (e, sz) => .req (st.noMark (fresh st.h)) (evAppendRow E (st.add (fresh st.h) (.arr e sz [] 0)) t (fresh st.h) 0 ys)
        | none => .stop
      | _ => .stop
    | none => .stop
   else .stop
 | _, _ => .stop
section
variable {Γ : Ctx} {st : St} {a : Act} {as : List Act} {β : Nat → Pl} {w : World} {K : D → St → Prop}
theorem good_appendRow (S : Sim Γ st a as β w) (t ty : TypeId) {l n : Nat} {ys : List (List Data)} {vx vy : Value} {K : D → St → Prop} (hx : RVD w (Im Γ β st.h w) β (.sl l 0 n) vx) (hy : Rd w (Im Γ β st.h w) ys vy)
 (h : (evAppendRow Γ.toEnv st t l n ys).ok st K) : Good Γ a as (Builtin.append_ #[t, t] ty #[vx, vy]) w K := by
 unfold evAppendRow at h
 split at h
 ·rename_i e sz e' sz' xs fz he hf
  obtain ⟨⟨rfl, rfl, h3, h4, h5, h7, h8, h9⟩, hk⟩ := h
  obtain ⟨g1, i, z, g2, g3, g4, g5, g6, g7⟩ := elemT_ok he
  obtain ⟨v', w', β', r1, r2, r3⟩ := S.append (l' := l) hf h3 h4 h5 h5 hx (hy.src h7) g1 g2 g3 g5 g7 g4 h8 h9
  exact ⟨v', w', β', _, _, r1, r2, r3, hk⟩
 ·exact h.elim
theorem good_append (S : Sim Γ st a as β w) (ts : List TypeId) (ty : TypeId) {xs : List D} {vs : List Value} (hx : RVDs w (Im Γ β st.h w) β xs vs) (h : (evAppend Γ.toEnv st ts xs).ok st K) :
 Good Γ a as (Builtin.append_ ts.toArray ty vs.toArray) w K := by
 unfold evAppend at h
 split at h
 ·rename_i t t' x y
  simp only [RVDs] at hx
  obtain ⟨vx, _, rfl, hx, vy, _, rfl, hy, rfl⟩ := hx
  split at h
  ·rename_i e; subst e
   split at h
   ·rename_i ys hys
    have R := S.rd hy hys
    split at h
    ·exact good_appendRow S t ty hx R h
    ·split at h
     ·rename_i e sz he
      obtain ⟨g1, i, z, g2, g3, g4, g5, g6, g7⟩ := elemT_ok he
      obtain ⟨hm, hk⟩ := h
      have S' := S.nilin (fresh st.h) e sz g6 hm
      have hx' : RVD w (Im Γ (upd β (fresh st.h) .nil) (st.add (fresh st.h) (.arr e sz [] 0)).h w) (upd β (fresh st.h) .nil) (.sl (fresh st.h) 0 0) vx := by
       simp only [RVD] at hx
       obtain ⟨a', rfl⟩ := hx
       exact RVD.nilrow (upd_same _ _ _) a'
      have R' : Rd w (Im Γ (upd β (fresh st.h) .nil) (st.add (fresh st.h) (.arr e sz [] 0)).h w) ys vy := by
       obtain ⟨a1, n1, c1, q1, q2, q3, q4⟩ := R
       refine ⟨a1, n1, c1, q1, q2, q3, q4.imp id ?_⟩
       rintro ⟨b, o, sz', p1, p2, p3, p4⟩
       refine ⟨b, o, sz', p1, p2, p3, fun j d hj => ⟨(p4 j d hj).1, (p4 j d hj).2.imp fun u hu => ⟨hu.1, RV.keeps (Im.nilin S _ e sz g6 hm) _ _ hu.2⟩⟩⟩
      have hk2 : (evAppendRow Γ.toEnv (st.add (fresh st.h) (.arr e sz [] 0)) t (fresh st.h) 0 ys).ok (st.add (fresh st.h) (.arr e sz [] 0)) K := by
       have : ∀ (r : Res), (∃ p d s, r = .req p (.st d s) ∨ r = .stop) → r.ok st K → r.ok (st.add (fresh st.h) (.arr e sz [] 0)) K := by
        rintro r ⟨p, d, s, rfl | rfl⟩ hr <;> exact hr
       refine this _ ?_ hk
       unfold evAppendRow
       split
       ·exact ⟨_, _, _, .inl rfl⟩
       ·exact ⟨True, .junk, st, .inr rfl⟩
      exact good_appendRow S' t ty hx' R' hk2
     ·exact h.elim
    ·exact h.elim
   ·exact h.elim
  ·exact h.elim
 ·exact h.elim
end
end Go.Proofs.YtpajpkbipagjpaaGreatDoor.Vm
namespace Go.Proofs.YtpajpkbipagjpaaGreatDoor.Vm
open Go Go.RowKit
def dropL (l : Nat) : List (Nat × Blk) → List (Nat × Blk)
 | [] => []
 | x :: r => if x.1 = l then dropL l r else x :: dropL l r
theorem find_dropL (l : Nat) : ∀ (h : List (Nat × Blk)) (k : Nat) (B : Blk), find (dropL l h) k = some B → k ≠ l ∧ find h k = some B
 | [], k, B, hf => by simp [dropL, find] at hf
 | x :: r, k, B, hf => by
   unfold dropL at hf
   by_cases e : x.1 = l
   ·rw [if_pos e] at hf
    obtain ⟨h1, h2⟩ := find_dropL l r k B hf
    refine ⟨h1, ?_⟩
    unfold find
    rw [if_neg (fun e2 => h1 (by rw [← e2, e]))]
    exact h2
   ·rw [if_neg e] at hf
    unfold find at hf ⊢
    by_cases e2 : x.1 = k
    ·rw [if_pos e2] at hf ⊢
     exact ⟨fun e3 => e (by rw [e2, e3]), hf⟩
    ·rw [if_neg e2] at hf ⊢
     exact find_dropL l r k B hf
section
variable {Γ : Ctx} {st : St} {a : Act} {as : List Act} {β : Nat → Pl} {w : World} {K : D → St → Prop}
theorem Sim.marked (S : Sim Γ st a as β w) {l b c sz : Nat} {B : Blk} {w' : World} (hf : find st.h l = some B) (hb : β l = .blk b c sz) (hsize : w'.heap.size = w.heap.size)
 (hother : ∀ k, k ≠ b → w'.heap[k]? = w.heap[k]?) (hcell : ∀ b' o, w'.cell? ⟨b', o, none⟩ = w.cell? ⟨b', o, none⟩) (hbelow : Below Γ.w0.heap.size Γ.w0 w') {h' : List (Nat × Blk)} (hh : ∀ k B', find h' k = some B' → k ≠ l ∧ find st.h k = some B') :
 Sim Γ ⟨st.c, st.s, h'⟩ a as β w' ∧ Keeps w (Im Γ β st.h w) w' (Im Γ β h' w') := by
 have K : Keeps w (Im Γ β st.h w) w' (Im Γ β h' w') := by
  intro b' o h
  refine ⟨?_, hcell b' o⟩
  rcases h with h | ⟨h1, h2, h3⟩
  ·exact .inl h
  ·exact .inr ⟨h1, by omega, fun k B' hB' => h3 k B' (hh k B' hB').2⟩
 refine ⟨⟨hbelow, S.hJ, S.glob.keeps K, ?_, S.cur.keeps K, S.stk.keeps K, ?_⟩, K⟩
 ·intro k k' B1 B2 b1 c1 c' s s' h1 h2 e1 e2
  exact S.apart k k' B1 B2 b1 c1 c' s s' (hh _ _ h1).2 (hh _ _ h2).2 e1 e2
 ·intro k B' hB'
  refine (S.heap k B' (hh k B' hB').2).keep K fun b1 c1 s1 e1 => hother b1 fun e => ?_
  subst e
  exact (hh k B' hB').1 (S.apart k l B' B _ c1 c s1 sz (hh k B' hB').2 hf e1 hb)
def mkFz (a : Addr) (n : Nat) : Obj → Obj := fun
 | .cells c elem (lo, hi) => .cells c elem (if lo == hi then (a.off, a.off + n) else (min lo a.off, max hi (a.off + n)))
 | o => o
theorem freeze_heap (w : World) (a : Addr) : w.freeze a 1 = { w with heap := w.heap.modify a.block (mkFz a 1) } := by
 unfold World.freeze
 rw [if_neg (by decide)]
 rfl
theorem freeze_other (w : World) (a : Addr) (k : Nat) (h : k ≠ a.block) : (w.freeze a 1).heap[k]? = w.heap[k]? := by
 rw [freeze_heap]
 simp only [Array.getElem?_modify]
 rw [if_neg (fun e => h e.symm)]
theorem freeze_size (w : World) (a : Addr) : (w.freeze a 1).heap.size = w.heap.size := by rw [freeze_heap]; simp
theorem freeze_cell (w : World) (a : Addr) (b o : Nat) : (w.freeze a 1).cell? ⟨b, o, none⟩ = w.cell? ⟨b, o, none⟩ := by
 rw [freeze_heap]
 simp only [World.cell?, Array.getElem?_modify]
 by_cases e : a.block = b
 ·rw [if_pos e]
  cases h : w.heap[b]? with
  | none => simp
  | some x => cases x <;> simp [mkFz]
 ·rw [if_neg e]
theorem evBytes_sl (E : Env) (src dst : TypeId) (l o n : Nat) : evBytes E src dst (.sl l o n) = .stop := by
 unfold evBytes
 generalize kindT E.P src = k1
 generalize kindT E.P dst = k2
 cases k1 <;> cases k2 <;> rfl
def evSame (E : Env) (st : St) (src dst : TypeId) (l n : Nat) : Res :=
 match kindT E.P dst, find st.h l with
 | .slice e, some (.arr e' sz xs fz) => .req (src = dst ∧ kindT E.P e = .int .u8 ∧ 0 < n ∧ n ≤ xs.length) (.st (.dat (.lst (xs.take n))) ⟨st.c, st.s, dropL l st.h⟩)
 | _, _ => .stop
theorem good_same (S : Sim Γ st a as β w) (src dst : TypeId) {l n : Nat} {vx : Value} (hx : RVD w (Im Γ β st.h w) β (.sl l 0 n) vx) (h : (evSame Γ.toEnv st src dst l n).ok st K) : Good Γ a as (convert src dst vx) w K := by
 unfold evSame at h
 split at h
 ·rename_i e e' sz xs fz hd hf
  obtain ⟨⟨rfl, he, hn, hl⟩, hk⟩ := h
  have hz : frz st (.sl l 0 n) = some (.lst (xs.take n), st.setB l (.arr e' sz xs xs.length)) := by
   simp only [frz, hf]
   rw [if_pos (by omega)]; rfl
  obtain ⟨⟨S1, K1⟩, hr⟩ := frz_ok (.sl l 0 n) S hx hz
  have hf1 : find (st.setB l (.arr e' sz xs xs.length)).h l = some (.arr e' sz xs xs.length) := find_setB hf
  have hb : ∃ b c s, β l = .blk b c s := by
   obtain ⟨_, _, _, p4⟩ := S.heap l _ hf
   rcases p4 with ⟨_, q⟩ | ⟨b, c, _, q, _⟩
   ·subst q; simp at hl; omega
   ·exact ⟨b, c, _, q⟩
  obtain ⟨b, c, s, hb⟩ := hb
  have hr0 := hr
  simp only [RV] at hr
  obtain ⟨a0, n0, c0, rfl, hn0, hc0, hr⟩ := hr
  rcases hr with hr | ⟨b1, o1, s1, rfl, hs1, hE⟩
  ·have : (xs.take n).length = 0 := by rw [hr]; rfl
   rw [List.length_take] at this; omega
  ·have hbb : b1 = b := by
    simp only [RVD, hb] at hx
    rcases hx with ⟨q, _⟩ | ⟨b2, c2, s2, a2, q1, _, q2, q3⟩
    ·cases q
    ·injection q1 with q1 _ _
     injection q2 with q2 _ _
     rcases q3 with q3 | ⟨q3, _⟩
     ·rw [← q2] at q3
      injection q3 with q3
      injection q3 with q3
      rw [q3, q1]
     ·omega
   subst hbb
   have hlt := S1.lt hf1 hb
   obtain ⟨_, _, _, p4⟩ := S1.heap l _ hf1
   have hobj : ∃ cur, w.heap[b1]? = some (.cells cur e' (0, 0)) := by
    rcases p4 with ⟨q, _⟩ | ⟨b3, c3, cur, q, _, q2, _⟩
    ·rw [hb] at q; cases q
    ·rw [hb] at q; injection q with q _ _; subst q; exact ⟨cur, q2⟩
   obtain ⟨cur, hobj⟩ := hobj
   have hsh : w.shape? b1 = some (e', cur.size) := by unfold World.shape?; rw [hobj]
   have hne0 : kindT Γ.P src ≠ .other := by rw [hd]; simp
   have hrun : (convert src src (.slice (some ⟨b1, o1, none⟩) n0 c0)).run Γ.P w = .ok (.slice (some ⟨b1, o1, none⟩) n0 c0) (w.freeze ⟨b1, cur.size, none⟩ 1) := by
    simp [convert, run_underlying (underlying_slice hd), run_underlying (underlying_int he), markStringish, hsh]
   have hbel : Below Γ.w0.heap.size Γ.w0 (w.freeze ⟨b1, cur.size, none⟩ 1) := by
    have hB := S1.below
    refine ⟨?_, ?_, ?_, ?_, fun k hk => ?_⟩
    ·rw [freeze_heap]; exact hB.os
    ·rw [freeze_heap]; exact hB.tape
    ·rw [freeze_heap]; exact hB.output
    ·rw [freeze_size]; exact hB.size
    ·rw [freeze_other _ _ _ (by simp only; omega)]; exact hB.block k hk
   obtain ⟨S2, K2⟩ := S1.marked hf1 hb (freeze_size w ⟨b1, cur.size, none⟩) (fun k hk => freeze_other w ⟨b1, cur.size, none⟩ k hk) (fun b' o => freeze_cell w ⟨b1, cur.size, none⟩ b' o) hbel (h' := dropL l st.h) (fun k B' hB' => by
    obtain ⟨g1, g2⟩ := find_dropL l _ k B' hB'
    refine ⟨g1, ?_⟩
    simp only [St.setB, find_hSet]
    rw [if_neg g1]; exact g2)
   exact ⟨_, _, β, _, ⟨st.c, st.s, dropL l st.h⟩, hrun, S2, RVD.keeps K2 (.dat _) _ (by simpa [RVD] using hr0), hk⟩
 ·exact h.elim
end
attribute [go_sem] dropL evSame
end Go.Proofs.YtpajpkbipagjpaaGreatDoor.Vm
namespace Go.Proofs.YtpajpkbipagjpaaGreatDoor.Vm
open Go Go.RowKit
def Fw (ρ : Option Nat) : Fence := { Fence.wide with round := ρ }
structure PFn where
 pre : List Data → Prop
 res : List Data → List Data
abbrev Fns := Nat → Option PFn
def retD : List Data → D
 | [d] => .dat d
 | ds => .tup (ds.map .dat)
def callable (P : Program) (f : Nat) : Bool := match P.funcs[f]? with
 | some fn => fn.name != "runtime.NumGoroutine" && fn.body.isSome
 | none => false
def Fresh (J : Cset) (w w' : World) : Cset := fun b o => J b o ∨ (w.heap.size ≤ b ∧ b < w'.heap.size)
def Pure (E : Env) (f : Nat) (p : PFn) : Prop := ∀ (w : World) (J : Cset) (args : Array Value) (ds : List Data), (∀ b o, J b o → b < w.heap.size) → Glob E w J → RVs w J ds args.toList → p.pre ds →
 CallsIn (Fw none) 0 E.P f args w fun e w' => ∃ v, e = .returned v ∧ Below w.heap.size w w' ∧ RVD w' (Fresh J w w') (fun _ => .nil) (retD (p.res ds)) v
def Sound (E : Env) (Φ : Fns) : Prop := ∀ f p, Φ f = some p → callable E.P f = true ∧ Pure E f p
theorem RVDs_dat_beta {w : World} {I : Cset} {β β' : Nat → Pl} : ∀ {ds : List Data} {vs : List Value}, RVDs w I β (ds.map .dat) vs → RVDs w I β' (ds.map .dat) vs
 | [], vs, h => h
 | d :: ds, vs, h => by
   simp only [List.map_cons, RVDs] at h ⊢
   obtain ⟨v, r, rfl, h1, h2⟩ := h
   exact ⟨v, r, rfl, h1, RVDs_dat_beta h2⟩
theorem retD_beta {w : World} {I : Cset} {β β' : Nat → Pl} {ds : List Data} {v : Value} (h : RVD w I β (retD ds) v) : RVD w I β' (retD ds) v := by
 unfold retD at h ⊢
 split at h
 ·exact h
 ·simp only [RVD] at h ⊢
  obtain ⟨vs, rfl, h⟩ := h
  exact ⟨vs, rfl, RVDs_dat_beta h⟩
inductive Ans where
 | go (d : D) (s : St)
 | skip (s : St)
 | req (p : Prop) (r : Ans)
 | all (q : Bool → Prop) (f : Bool → D)
 | split (c : Bool) (x y : D)
 | call (g : Nat) (ds : List D)
 | yield (l : Nat) (ds : List D)
 | stop
def Res.ans (st : St) : Res → Ans
 | .val d => .go d st
 | .st d s => .go d s
 | .req p r => .req p (r.ans st)
 | .stop => .stop
def Res2.ans (st : St) : Res2 → Ans
 | .val d => .go d st
 | .req p d => .req p (.go d st)
 | .all q f => .all q f
 | .stop => .stop
def ResU.ans : ResU → Ans
 | .st s => .skip s
 | .req p r => .req p r.ans
 | .stop => .stop
def isC : Operand → Bool
 | .const _ => true
 | _ => false
def D.isNili : D → Bool
 | .dat .nili => true
 | _ => false
def D.isAgg : D → Bool
 | .dat (.agg _) => true
 | .agg _ => true
 | _ => false
def isNilC : Operand → Bool
 | .const (.slice none 0 0) => true
 | _ => false
def evEq (E : Env) (op : BinOp) (t : TypeId) (x y : Operand) (dx dy : D) : Res2 :=
 if isNilC y then evNil E.P op t dx
 else if dx.one then
  if dx.isNili && dy.isNili && !(isC x || isC y) then .stop else evBin E op t dx dy
 else if dx.isAgg && dy.isAgg then evBinS E op t dx dy else .stop
def evNilCheck : D → Bool
 | .ref _ _ => true
 | .eref _ _ _ => true
 | .dat (.ptr _) => true
 | .dat (.iface _ _) => true
 | .dat (.fn (.func _)) => true
 | .fn (.func _) _ _ => true
 | _ => false
def evPick (E : Env) (st : St) (c x y : D) : Ans :=
 match c with
 | .dat (.bool b) => .split b x y
 | _ => .stop
def evIface (E : Env) (st : St) (t : TypeId) (x : D) : Ans :=
 match kindT E.P t, x with
 | .iface, _ => .stop
 | .other, _ => .stop
 | _, .dat d => .go (.dat (.iface t d)) st
 | _, _ => .stop
def evExtract (st : St) (x : D) (i : Nat) : Ans :=
 match x with
 | .tup cs => match cs[i]? with
   | some d => .go d st
   | none => .stop
 | _ => .stop
def evBuiltin (E : Env) (st : St) (b : Builtin) (ts : List TypeId) (xs : List D) : Ans :=
 match b, ts, xs with
 | .len, [t], [x] => (evLen E.P t x).ans st
 | .max, _, [x, y] => (evMax x y).ans st
 | .min, _, [x, y] => (evMin x y).ans st
 | .append, ts, xs => (evAppend E st ts xs).ans st
 | _, _, _ => .stop
def evGo (E : Env) (Φ : Fns) (st : St) (g : Nat) (ds : List D) : Ans :=
 match Φ g with
 | some p => match frzs st ds with
   | some (xs, st') => .req (p.pre xs) (.go (retD (p.res xs)) st')
   | none => .stop
 | none => .req (callable E.P g = true) (.call g ds)
def evFn (E : Env) (Φ : Fns) (st : St) (f : D) (xs : List D) : Ans :=
 match f with
 | .dat (.fn (.func g)) => evGo E Φ st g xs
 | .fn (.func g) ys zs => evGo E Φ st g (ys ++ xs ++ zs)
 | .yld l => .yield l xs
 | _ => .stop
def evOs (E : Env) (st : St) : List Operand → List D
 | [] => []
 | x :: r => evO E st x :: evOs E st r
def evCall (E : Env) (Φ : Fns) (st : St) (c : Call) : Ans :=
 match c.callee with
 | .builtin b => evBuiltin E st b c.argTypes.toList (evOs E st c.args.toList)
 | .value f => evFn E Φ st (evO E st f) (evOs E st c.args.toList)
 | .invoke _ _ => .stop
def evConvert (E : Env) (st : St) (src dst : TypeId) (x : D) : Ans :=
 match kindT E.P dst with
 | .slice _ => match x with
   | .sl l 0 n => (evSame E st src dst l n).ans st
   | x => (evBytes E src dst x).ans st
 | _ => (evConv E.P st src dst x).ans st
def posT (P : Program) (t : TypeId) : Bool := (kindT P t).agg || decide (0 < szT P t)
def ev (E : Env) (Φ : Fns) (st : St) : Op → Ans
 | .move x => .go (evO E st x) st
 | .assign x => .go (evO E st x) st
 | .pick c x y => evPick E st (evO E st c) (evO E st x) (evO E st y)
 | .alloc t => (evAlloc E st (fresh st.h) t).ans st
 | .box t x => (evBox E st (fresh st.h) (evO E st x)).ans st
 | .build t ps => (evBuild E st t ps.toList).ans st
 | .buildSlice t n ps => (evBuildSlice E st (fresh st.h) t n ps.toList).ans st
 | .load t x => .req (posT E.P t = true) ((evLoad E st t (evO E st x)).ans st)
 | .store t x y => (evStore E st t (evO E st x) (evO E st y)).ans
 | .nilCheck x => if evNilCheck (evO E st x) then .go (evO E st x) st else .stop
 | .binOp op t x y _ => (evEq E op t x y (evO E st x) (evO E st y)).ans st
 | .unOp op _ x => (evUn op (evO E st x)).ans st
 | .convert src dst x => evConvert E st src dst (evO E st x)
 | .makeInterface t x => evIface E st t (evO E st x)
 | .makeFunc f xs ys => .go (.fn f (evOs E st xs.toList) (evOs E st ys.toList)) st
 | .makeSlice t x y => (evMake E st (fresh st.h) t (evO E st x) (evO E st y)).ans st
 | .slice t x lo hi mx => (evSlice E st t (evO E st x) (lo.map (evO E st)) (hi.map (evO E st)) (mx.map (evO E st))).ans st
 | .fieldAddr t x f => (evFieldAddr E t (evO E st x) f).ans st
 | .field t x f => (evField E t (evO E st x) f).ans st
 | .indexAddr t x i => (evIndexAddr E st t (evO E st x) (evO E st i)).ans st
 | .index t x i => (evIndex E t (evO E st x) (evO E st i)).ans st
 | .extract x i => evExtract st (evO E st x) i
 | .call c => evCall E Φ st c
 | _ => .stop
structure Behind where
 n : D → St → Prop
 s : St → Prop
 c : Nat → List D → Prop
 y : Nat → List D → Prop
def Ans.ok (st : St) (B : Behind) : Ans → Prop
 | .go d s => B.n d s
 | .skip s => B.s s
 | .req p r => p ∧ r.ok st B
 | .all q f => ∀ b, q b → B.n (f b) st
 | .split c x y => (c = true → B.n x st) ∧ (c = false → B.n y st)
 | .call g ds => B.c g ds
 | .yield l ds => B.y l ds
 | .stop => False
theorem Res.ans_ok {st : St} {B : Behind} : ∀ {r : Res}, (r.ans st).ok st B → r.ok st B.n
 | .val d, h => h
 | .st d s, h => h
 | .req p r, h => ⟨h.1, Res.ans_ok (r := r) h.2⟩
 | .stop, h => h
theorem Res2.ans_ok {st : St} {B : Behind} : ∀ {r : Res2}, (r.ans st).ok st B → r.ok fun d => B.n d st
 | .val d, h => h
 | .req p d, h => h
 | .all q f, h => h
 | .stop, h => h
theorem ResU.ans_ok {st : St} {B : Behind} : ∀ {r : ResU}, (r.ans).ok st B → r.ok B.s
 | .st s, h => h
 | .req p r, h => ⟨h.1, ResU.ans_ok (r := r) h.2⟩
 | .stop, h => h
end Go.Proofs.YtpajpkbipagjpaaGreatDoor.Vm
namespace Go.Proofs.YtpajpkbipagjpaaGreatDoor.Vm
open Go Go.RowKit
section
variable {Γ : Ctx} {st : St} {a : Act} {as : List Act} {β : Nat → Pl} {w : World} {Φ : Fns} {ρ : Option Nat} {B : Behind} {next : Act → World → Prop} {Q : Exit → Act → World → Prop}
theorem upon_good {o : Oper} {K : D → St → Prop} {s : Sem Value} (h : Good Γ a as s w K)
 (hN : ∀ v d st' β' w', Sim Γ st' a as β' w' → RVD w' (Im Γ β' st'.h w') β' d v → K d st' → next (a.put o.dst v) w') :
 o.uponIn (Fw ρ) 0 Γ.P a next Q (Sem.run Γ.P (do pure (.value (← s)) : Sem Next) w) := by
 obtain ⟨v, w', β', d, st', hr, hs, hv, hk⟩ := h
 rw [Sem.run_bind, hr]
 exact hN v d st' β' w' hs hv hk
theorem upon_goodU {o : Oper} {K : St → Prop} {s : Sem Unit} (h : GoodU Γ a as β s w K)
 (hS : ∀ st' w', Sim Γ st' a as β w' → K st' → next (a.put o.dst undef) w') :
 o.uponIn (Fw ρ) 0 Γ.P a next Q (Sem.run Γ.P (do s; pure .skip : Sem Next) w) := by
 obtain ⟨w', st', hr, hs, hk⟩ := h
 rw [Sem.run_bind, hr]
 exact hS st' w' hs hk
theorem Good.of2 (S : Sim Γ st a as β w) {s : Sem Value} {K : D → St → Prop} (h : Good2 Γ.P w (Im Γ β st.h w) β s fun d => K d st) : Good Γ a as s w K := by
 obtain ⟨v, d, hr, hv, hk⟩ := h
 exact ⟨v, w, β, d, st, hr, S, hv, hk⟩
theorem evOs_ok (S : Sim Γ st a as β w) : ∀ (xs : List Operand), RVDs w (Im Γ β st.h w) β (evOs Γ.toEnv st xs) (xs.map a.eval)
 | [] => rfl
 | x :: r => by
   simp only [evOs, List.map_cons, RVDs]
   exact ⟨_, _, rfl, S.eval x, evOs_ok S r⟩
theorem iface_ok {P : Program} {w : World} {t : TypeId} {x : Value} (h1 : kindT P t ≠ .iface) (h2 : kindT P t ≠ .other) : (Instr.makeInterface t x).run P w = .ok (.iface t x) w := by
 obtain ⟨d, hd⟩ := underlying_some h2
 have : ∀ ms, d ≠ .interface ms := by
  rintro ms rfl
  exact h1 (by simp [kindT, hd])
 simp only [Instr.makeInterface, Sem.run_bind, run_underlying hd, Result.andThen_ok]
 cases d <;> first | rfl | exact absurd rfl (this _)
theorem eqGuard_free {P : Program} {w : World} (op : BinOp) (t : TypeId) (x y : Operand) {vx vy : Value} (h1 : vx = .nilIface → vy = .nilIface → isC x || isC y) (h2 : ∀ p q, vx = .agg p → vy = .agg q → P.eqGuardType P.depth t = false) :
 (eqGuard op t x y vx vy).run P w = .ok () w := by
 have key : ∀ op', op' = .eql ∨ op' = .neq → (eqGuard op' t x y vx vy).run P w = .ok () w := by
  intro op' ho
  rcases ho with rfl | rfl <;>
  ·cases vx <;> cases vy <;> try rfl
   ·have := h1 rfl rfl
    cases x <;> cases y <;> simp [isC] at this <;> rfl
   ·rename_i p q
    simp [eqGuard, h2 p q rfl rfl, go_sem]
 cases op <;> first | exact key _ (.inl rfl) | exact key _ (.inr rfl) | rfl
end
end Go.Proofs.YtpajpkbipagjpaaGreatDoor.Vm
namespace Go.Proofs.YtpajpkbipagjpaaGreatDoor.Vm
open Go Go.RowKit
section
variable {Γ : Ctx} {st : St} {a : Act} {as : List Act} {β : Nat → Pl} {w : World} {Φ : Fns} {ρ : Option Nat} {B : Behind} {next : Act → World → Prop} {Q : Exit → Act → World → Prop}
theorem D.agg_ok {w : World} {I : Cset} {d : D} {v : Value} (h : RVD w I β d v) (ha : d.isAgg = true) : ∃ p, v = .agg p := by
 unfold D.isAgg at ha
 split at ha
 ·simp only [RVD, RV] at h; exact h.imp fun p hp => hp.1
 ·simp only [RVD] at h; exact h.imp fun p hp => hp.1
 ·cases ha
theorem D.nili_ok {w : World} {I : Cset} {d : D} (h : RVD w I β d .nilIface) (ho : d.one = true) : d.isNili = true := by
 cases d with
 | dat d => cases d <;> simp_all [RVD, RV, D.isNili]
 | junk => simp [D.one] at ho
 | _ => simp_all [RVD]
theorem isNilC_ok {y : Operand} (h : isNilC y = true) : y = .const (.slice none 0 0) := by
 unfold isNilC at h
 split at h
 ·rfl
 ·cases h
theorem good_eq (S : Sim Γ st a as β w) (op : BinOp) (t : TypeId) (x y : Operand) {K : D → Prop} (h : (evEq Γ.toEnv op t x y (evO Γ.toEnv st x) (evO Γ.toEnv st y)).ok K) :
 Good2 Γ.P w (Im Γ β st.h w) β (do eqGuard op t x y (a.eval x) (a.eval y); binOp op t (a.eval x) (a.eval y)) K := by
 have hx := S.eval x
 have hy := S.eval y
 have fin : (eqGuard op t x y (a.eval x) (a.eval y)).run Γ.P w = .ok () w → Good2 Γ.P w (Im Γ β st.h w) β (binOp op t (a.eval x) (a.eval y)) K →
  Good2 Γ.P w (Im Γ β st.h w) β (do eqGuard op t x y (a.eval x) (a.eval y); binOp op t (a.eval x) (a.eval y)) K := by
  rintro h1 ⟨v, d, h2, h3, h4⟩
  exact ⟨v, d, by rw [Sem.run_bind, h1]; exact h2, h3, h4⟩
 unfold evEq at h
 split at h
 ·rename_i hn
  have := isNilC_ok hn
  subst this
  exact fin (eqGuard_free op t _ _ (fun _ e => by cases e) fun _ _ _ e => by cases e) (good_nil op t hx h)
 ·split at h
  ·rename_i ho
   split at h
   ·exact h.elim
   ·rename_i hg
    refine fin (eqGuard_free op t _ _ (fun e1 e2 => ?_) fun p q e1 _ => ?_) (good_bin op t hx hy h)
    ·rw [e1] at hx
     rw [e2] at hy
     have n1 := D.nili_ok hx ho
     cases hC : (isC x || isC y) with
     | true => rfl
     | false =>
       exfalso
       have hny : (evO Γ.toEnv st y).isNili = true := by
        simp only [D.isNili] at n1
        split at n1
        ·rename_i hxe
         rw [hxe] at h
         cases hye : evO Γ.toEnv st y with
         | dat d =>
           rw [hye] at hy
           cases d <;> simp_all [RVD, RV, D.isNili]
         | junk => rw [hye] at h; cases op <;> simp [evBin, Res2.ok] at h
         | _ => rw [hye] at hy; simp_all [RVD]
        ·cases n1
       exact hg (by simp [n1, hny, hC])
    ·have := hx
     rw [e1] at this
     have := D.one_ok this ho
     simp [Value.oneCell'] at this
  ·split at h
   ·rename_i hag
    simp only [Bool.and_eq_true] at hag
    obtain ⟨p, hp⟩ := D.agg_ok hx hag.1
    obtain ⟨q, hq⟩ := D.agg_ok hy hag.2
    have hs : Γ.P.eqGuardType Γ.P.depth t = false := by
     unfold evBinS at h
     split at h
     ·rename_i hs
      unfold structEqOK at hs
      split at hs
      ·simp only [Bool.and_eq_true, Bool.not_eq_true'] at hs
       exact hs.2
      ·cases hs
     ·exact h.elim
    exact fin (eqGuard_free op t _ _ (fun e1 _ => by rw [hp] at e1; cases e1) fun _ _ _ _ => hs) (good_binS op t hx hy h ⟨⟨p, hp⟩, q, hq⟩).1
   ·exact h.elim
theorem evNilCheck_ok {P : Program} {w : World} {I : Cset} {d : D} {o : Oper} {x : Operand} {ρ : Operand → Value} (h : RVD w I β d (ρ x)) (hc : evNilCheck d = true) (ho : o.op = .nilCheck x) : (execOp ρ o).run P w = .ok (.value (ρ x)) w := by
 have key : ∀ v, ρ x = v → (v ≠ .pointer none ∧ v ≠ .nilIface ∧ v ≠ .nilFunc ∧ ∀ n p q, v ≠ .func (.method n) p q) → (execOp ρ o).run P w = .ok (.value v) w := by
  rintro v hv ⟨h1, h2, h3, h4⟩
  unfold execOp
  rw [ho]
  simp only [hv]
  rfl
 refine key _ rfl ?_
 unfold evNilCheck at hc
 split at hc
 ·simp only [RVD] at h; obtain ⟨_, _, _, _, e⟩ := h; rw [e]; simp
 ·simp only [RVD] at h; obtain ⟨_, _, _, _, e⟩ := h; rw [e]; simp
 ·simp only [RVD, RV] at h; obtain ⟨_, _, e, _⟩ := h; rw [e]; simp
 ·simp only [RVD, RV] at h; obtain ⟨_, e, _⟩ := h; rw [e]; simp
 ·simp only [RVD, RV] at h; rw [h]; simp
 ·simp only [RVD] at h; obtain ⟨_, _, e, _⟩ := h; rw [e]; simp
 ·cases hc
theorem callable_ok {P : Program} {f : Nat} (h : callable P f = true) (args : Array Value) (w : World) : (callFunc f args).run P w = .ok (.enter f args) w := by
 unfold callable at h
 split at h
 ·rename_i fn hf
  simp only [Bool.and_eq_true, bne_iff_ne, ne_eq] at h
  obtain ⟨h1, h2⟩ := h
  obtain ⟨c, hc⟩ := Option.isSome_iff_exists.1 h2
  simp [callFunc, go_sem, hf, h1, hc]
 ·cases h
theorem Fresh.keeps (S : Sim Γ st a as β w) {w' : World} (h : Below w.heap.size w w') : Keeps w' (Fresh (Im Γ β st.h w) w w') w' (Im Γ β st.h w') := by
 obtain ⟨S', K⟩ := S.called h
 intro b o hf
 refine ⟨?_, rfl⟩
 rcases hf with hf | ⟨h1, h2⟩
 ·exact (K b o hf).1
 ·refine .inr ⟨Nat.le_trans S.below.size h1, h2, fun l B hB hmu => ?_⟩
  obtain ⟨c, sz, hb⟩ := hmu.block
  have := (S.lt hB hb).1
  omega
theorem good_extract (S : Sim Γ st a as β w) {x : D} {v : Value} (hx : RVD w (Im Γ β st.h w) β x v) (i : Nat) (h : (evExtract st x i).ok st B) : Good Γ a as (Instr.extract v i) w B.n := by
 unfold evExtract at h
 split at h
 ·rename_i cs
  simp only [RVD] at hx
  obtain ⟨vs, rfl, hx⟩ := hx
  split at h
  ·rename_i d hd
   obtain ⟨u, hu, hr⟩ := hx.at i d hd
   have hu' : vs[i]? = some u := by simpa using hu
   exact .val S (by simp [Instr.extract, hu', go_sem]) hr h
  ·exact h.elim
 ·exact h.elim
theorem good_iface (S : Sim Γ st a as β w) (t : TypeId) {x : D} {v : Value} (hx : RVD w (Im Γ β st.h w) β x v) (h : (evIface Γ.toEnv st t x).ok st B) : Good Γ a as (Instr.makeInterface t v) w B.n := by
 unfold evIface at h
 split at h
 ·exact h.elim
 ·exact h.elim
 ·rename_i d h1 h2
  refine .val S (iface_ok (fun e => h1 e) fun e => h2 e) ?_ h
  simp only [RVD, RV] at hx ⊢
  exact ⟨v, rfl, hx⟩
 ·exact h.elim
end
end Go.Proofs.YtpajpkbipagjpaaGreatDoor.Vm
namespace Go.Proofs.YtpajpkbipagjpaaGreatDoor.Vm
open Go Go.RowKit
section
variable {Γ : Ctx} {st : St} {a : Act} {as : List Act} {β : Nat → Pl} {w : World} {Φ : Fns} {ρ : Option Nat} {B : Behind} {next : Act → World → Prop} {Q : Exit → Act → World → Prop}
theorem upon_val {o : Oper} {v : Value} {d : D} {st' : St} {β' : Nat → Pl} {w' : World} (hr : (execOp a.eval o).run Γ.P w = .ok (.value v) w') (S : Sim Γ st' a as β' w') (hd : RVD w' (Im Γ β' st'.h w') β' d v) (hk : B.n d st')
 (hN : ∀ v d st' β' w', Sim Γ st' a as β' w' → RVD w' (Im Γ β' st'.h w') β' d v → B.n d st' → next (a.put o.dst v) w') : o.uponIn (Fw ρ) 0 Γ.P a next Q ((execOp a.eval o).run Γ.P w) := by
 rw [hr]; exact hN v d st' β' w' S hd hk
theorem Oper.uponIn_call {F : Fence} {n : Nat} {P : Program} {o : Oper} {a : Act} {next : Act → World → Prop} {Q : Exit → Act → World → Prop} {g : Nat} {args : Array Value} {w : World} {R : Result Next} (hR : R = .ok (.enter g args) w) (hd : F.depth = none)
 (h : CallsIn F 0 P g args w fun e w'' => ∃ v, e = .returned v ∧ next (a.put o.dst v) w'') : o.uponIn F 0 P a next Q R := by
 subst hR
 refine ⟨fun e => by simp [hd] at e, h.mono fun e w'' he => ?_⟩
 obtain ⟨v, rfl, hn⟩ := he
 exact hn
theorem invoke_fn {P : Program} {w : World} {c : Call} {f : Operand} {ρ : Operand → Value} {ty : TypeId} (hc : c.callee = .value f) {g : Nat} {ys zs : Array Value} (hf : ρ f = .func (.func g) ys zs) (hcall : callable P g = true) :
 (do let d ← resolve ρ c ty; invoke d.target d.args : Sem Next).run P w = .ok (.enter g (ys ++ c.args.map ρ ++ zs)) w := by
 simp only [resolve, hc, hf, Deferred.ofValue, Sem.run_bind, Sem.run_pure, Result.andThen_ok, invoke]
 exact callable_ok hcall _ w
theorem RVDs.app3 {w : World} {I : Cset} {xs ys zs : List D} {vx vy vz : List Value} (h1 : RVDs w I β xs vx) (h2 : RVDs w I β ys vy) (h3 : RVDs w I β zs vz) : RVDs w I β (xs ++ ys ++ zs) (vx ++ vy ++ vz) := (h1.append h2).append h3
theorem call_ok (S : Sim Γ st a as β w) (hΦ : Sound Γ.toEnv Φ) {o : Oper} {g : Nat} {ds : List D} (h : (evGo Γ.toEnv Φ st g ds).ok st B)
 (hN : ∀ v d st' β' w', Sim Γ st' a as β' w' → RVD w' (Im Γ β' st'.h w') β' d v → B.n d st' → next (a.put o.dst v) w')
 (hC : ∀ g ds args, RVDs w (Im Γ β st.h w) β ds args.toList → B.c g ds → CallsIn (Fw none) 0 Γ.P g args w fun e w'' => ∃ v, e = .returned v ∧ next (a.put o.dst v) w'') :
 callable Γ.P g = true ∧ ∀ args, RVDs w (Im Γ β st.h w) β ds args.toList → CallsIn (Fw none) 0 Γ.P g args w fun e w'' => ∃ v, e = .returned v ∧ next (a.put o.dst v) w'' := by
 unfold evGo at h
 split at h
 ·rename_i p hp
  obtain ⟨hc, hpure⟩ := hΦ g p hp
  refine ⟨hc, fun args hargs => ?_⟩
  split at h
  ·rename_i xs st' hfz
   obtain ⟨hpre, hk⟩ := h
   obtain ⟨⟨S', K'⟩, hrv⟩ := frzs_ok ds S hargs hfz
   have hI : ∀ b o, Im Γ β st'.h w b o → b < w.heap.size := by
    intro b o hi
    rcases hi with hi | hi
    ·exact Nat.lt_of_lt_of_le (S'.hJ b o hi) S'.below.size
    ·exact hi.2.1
   refine (hpure w _ args xs hI S'.glob hrv hpre).mono fun e w'' he => ?_
   obtain ⟨v, rfl, hb, hv⟩ := he
   obtain ⟨S2, _⟩ := S'.called hb
   exact ⟨v, rfl, hN v _ st' β w'' S2 (RVD.keeps (Fresh.keeps S' hb) _ _ (retD_beta hv)) hk⟩
  ·exact h.elim
 ·obtain ⟨hc, hk⟩ := h
  exact ⟨hc, fun args hargs => hC g ds args hargs hk⟩
theorem evOs_arr (S : Sim Γ st a as β w) (xs : Array Operand) : RVDs w (Im Γ β st.h w) β (evOs Γ.toEnv st xs.toList) (xs.map a.eval).toList := by
 have := evOs_ok S xs.toList
 simpa using this
theorem ev_ok (S : Sim Γ st a as β w) (hΦ : Sound Γ.toEnv Φ) (o : Oper) (h : (ev Γ.toEnv Φ st o.op).ok st B)
 (hN : ∀ v d st' β' w', Sim Γ st' a as β' w' → RVD w' (Im Γ β' st'.h w') β' d v → B.n d st' → next (a.put o.dst v) w')
 (hS : ∀ st' β' w', Sim Γ st' a as β' w' → B.s st' → next (a.put o.dst undef) w')
 (hC : ∀ g ds args, RVDs w (Im Γ β st.h w) β ds args.toList → B.c g ds → CallsIn (Fw none) 0 Γ.P g args w fun e w'' => ∃ v, e = .returned v ∧ next (a.put o.dst v) w'')
 (hY : ∀ l ds args b c sz, β l = .blk b c sz → RVDs w (Im Γ β st.h w) β ds args.toList → B.y l ds → o.uponIn (Fw ρ) 0 Γ.P a next Q ((Instr.yield b args).run Γ.P w)) :
 o.wpIn (Fw ρ) 0 Γ.P a w next Q := by
 refine ⟨fun _ _ => trivial, ?_⟩
 have hnd : ∀ c, o.op ≠ .defer c := by
  intro c e
  rw [e] at h
  exact h
 rw [Oper.semAt_eq _ _ _ hnd]
 have good : ∀ {s : Sem Value}, (execOp a.eval o).run Γ.P w = Sem.run Γ.P (do pure (.value (← s)) : Sem Next) w → Good Γ a as s w B.n → o.uponIn (Fw ρ) 0 Γ.P a next Q ((execOp a.eval o).run Γ.P w) := by
  intro s e hg
  rw [e]
  exact upon_good hg hN
 have ex : ∀ {p : Op}, o.op = p → ∃ o' : Oper, o' = { o with op := p } ∧ execOp a.eval o = execOp a.eval o' := by
  intro p e
  refine ⟨_, rfl, ?_⟩
  rw [← e]
 cases hop : o.op with
 | move x =>
   rw [hop] at h
   exact upon_val (B := B) (d := evO Γ.toEnv st x) (v := a.eval x) (by unfold execOp; rw [hop]; rfl) S (S.eval x) h hN
 | assign x =>
   rw [hop] at h
   exact upon_val (B := B) (d := evO Γ.toEnv st x) (v := a.eval x) (by unfold execOp; rw [hop]; rfl) S (S.eval x) h hN
 | pick c x y =>
   rw [hop] at h
   have hc := S.eval c
   simp only [ev, evPick] at h
   split at h
   ·rename_i b hb
    rw [hb] at hc
    simp only [RVD, RV] at hc
    cases b with
    | true => exact upon_val (B := B) (d := evO Γ.toEnv st x) (v := a.eval x) (by unfold execOp; rw [hop]; simp only [hc, asBool]; rfl) S (S.eval x) (h.1 rfl) hN
    | false => exact upon_val (B := B) (d := evO Γ.toEnv st y) (v := a.eval y) (by unfold execOp; rw [hop]; simp only [hc, asBool]; rfl) S (S.eval y) (h.2 rfl) hN
   ·exact h.elim
 | alloc t =>
   rw [hop] at h
   exact good (by unfold execOp; rw [hop]) (good_alloc S _ t (Res.ans_ok h))
 | box t x =>
   rw [hop] at h
   exact good (by unfold execOp; rw [hop]) (good_box S _ t (S.eval x) (Res.ans_ok h))
 | build t ps =>
   rw [hop] at h
   refine good (s := Instr.build t (ps.map fun p => (p.1, a.eval p.2))) (by unfold execOp; rw [hop]) ?_
   have e : (ps.map fun p => (p.1, a.eval p.2)) = (ps.toList.map fun p => (p.1, a.eval p.2)).toArray := by rw [← Array.toList_map]
   rw [e]
   exact good_build S t ps.toList (Res.ans_ok h)
 | buildSlice t n ps =>
   rw [hop] at h
   refine good (s := Instr.buildSlice t n (ps.map fun p => (p.1, a.eval p.2))) (by unfold execOp; rw [hop]) ?_
   have e : (ps.map fun p => (p.1, a.eval p.2)) = (ps.toList.map fun p => (p.1, a.eval p.2)).toArray := by rw [← Array.toList_map]
   rw [e]
   exact good_buildSlice S (fresh st.h) t n ps.toList (Res.ans_ok h)
 | load t x =>
   rw [hop] at h
   obtain ⟨hp, h⟩ := h
   refine good (by unfold execOp; rw [hop]) (good_load S t (fun ha => ?_) (S.eval x) (Res.ans_ok h))
   simpa [posT, ha] using hp
 | store t x y =>
   rw [hop] at h
   have e : (execOp a.eval o).run Γ.P w = Sem.run Γ.P (do Instr.storeAt t (a.eval x) (a.eval y); pure .skip : Sem Next) w := by unfold execOp; rw [hop]
   rw [e]
   exact upon_goodU (good_store S t (S.eval x) (S.eval y) (ResU.ans_ok h)) fun st' w' => hS st' β w'
 | nilCheck x =>
   rw [hop] at h
   simp only [ev] at h
   split at h
   ·rename_i hc
    exact upon_val (B := B) (evNilCheck_ok (S.eval x) hc hop) S (S.eval x) h hN
   ·exact h.elim
 | binOp op t x y yt =>
   rw [hop] at h
   exact good (by unfold execOp; rw [hop]) (Good.of2 S (good_eq S op t x y (Res2.ans_ok h)))
 | unOp op t x =>
   rw [hop] at h
   exact good (by unfold execOp; rw [hop]) (Good.of2 S (good_un op (S.eval x) (Res2.ans_ok h)))
 | convert src dst x =>
   rw [hop] at h
   simp only [ev, evConvert] at h
   refine good (by unfold execOp; rw [hop]) ?_
   split at h
   ·split at h
    ·rename_i e0
     have hv := S.eval x
     rw [e0] at hv
     exact good_same S src dst hv (Res.ans_ok h)
    ·exact good_bytes S src dst (S.eval x) (Res.ans_ok h)
   ·exact Good.of2 S (good_conv S src dst (S.eval x) (Res2.ans_ok h))
 | makeInterface t x =>
   rw [hop] at h
   exact good (by unfold execOp; rw [hop]) (good_iface S t (S.eval x) h)
 | makeFunc f xs ys =>
   rw [hop] at h
   refine good (by unfold execOp; rw [hop]) (.val (v := .func f (xs.map a.eval) (ys.map a.eval)) S rfl ?_ h)
   simp only [RVD]
   exact ⟨_, _, rfl, evOs_arr S xs, evOs_arr S ys⟩
 | makeSlice t x y =>
   rw [hop] at h
   exact good (by unfold execOp; rw [hop]) (good_make S _ t (S.eval x) (S.eval y) (Res.ans_ok h))
 | slice t x lo hi mx =>
   rw [hop] at h
   have opt : ∀ (z : Option Operand), OptOK w (Im Γ β st.h w) β (z.map (evO Γ.toEnv st)) (z.map a.eval) := by
    intro z
    cases z with
    | none => trivial
    | some z => exact S.eval z
   exact good (by unfold execOp; rw [hop]) (good_slice S t (S.eval x) (opt lo) (opt hi) (opt mx) (Res.ans_ok h))
 | fieldAddr t x f =>
   rw [hop] at h
   exact good (by unfold execOp; rw [hop]) (good_fieldAddr S t f (S.eval x) (Res.ans_ok h))
 | field t x f =>
   rw [hop] at h
   exact good (by unfold execOp; rw [hop]) (good_field S t f (S.eval x) (Res.ans_ok h))
 | indexAddr t x i =>
   rw [hop] at h
   exact good (by unfold execOp; rw [hop]) (good_indexAddr S t (S.eval x) (S.eval i) (Res.ans_ok h))
 | index t x i =>
   rw [hop] at h
   exact good (by unfold execOp; rw [hop]) (good_index S t (S.eval x) (S.eval i) (Res.ans_ok h))
 | extract x i =>
   rw [hop] at h
   exact good (by unfold execOp; rw [hop]) (good_extract S (S.eval x) i h)
 | call c =>
   rw [hop] at h
   have he : execOp a.eval o = (do let d ← resolve a.eval c o.type; invoke d.target d.args : Sem Next) := by unfold execOp; rw [hop]
   rw [he]
   simp only [ev, evCall] at h
   have hargs := evOs_arr S c.args
   split at h
   ·rename_i b hcal
    have hinv : ∀ {s : Sem Value}, (∀ consts, builtin b c.argTypes o.type consts (c.args.map a.eval) = (do pure (.value (← s)) : Sem Next)) → Good Γ a as s w B.n →
     o.uponIn (Fw ρ) 0 Γ.P a next Q ((do let d ← resolve a.eval c o.type; invoke d.target d.args : Sem Next).run Γ.P w) := by
     intro s hs hg
     have e3 : (do let d ← resolve a.eval c o.type; invoke d.target d.args : Sem Next).run Γ.P w = Sem.run Γ.P (do pure (.value (← s)) : Sem Next) w := by
      simp only [resolve, hcal, Sem.run_bind, Sem.run_pure, Result.andThen_ok, invoke, hs]
     rw [e3]
     exact upon_good hg hN
    generalize hvs : (c.args.map a.eval).toList = vs at hargs
    have hav : c.args.map a.eval = vs.toArray := by rw [← hvs]
    generalize hts : c.argTypes.toList = ts at h
    have hat : c.argTypes = ts.toArray := by rw [← hts]
    unfold evBuiltin at h
    split at h
    ·rename_i _ _ t x hx
     rw [hx] at hargs
     simp only [RVDs] at hargs
     obtain ⟨v, _, rfl, hv, rfl⟩ := hargs
     exact hinv (fun consts => by rw [hav, hat]; rfl) (Good.of2 S (good_len t o.type hv (Res2.ans_ok h)))
    ·rename_i _ _ ts' x y hx
     rw [hx] at hargs
     simp only [RVDs] at hargs
     obtain ⟨v, _, rfl, hv, u, _, rfl, hu, rfl⟩ := hargs
     exact hinv (fun consts => by rw [hav]; rfl) (Good.of2 S (good_max _ o.type hv hu (Res2.ans_ok h)))
    ·rename_i _ _ ts' x y hx
     rw [hx] at hargs
     simp only [RVDs] at hargs
     obtain ⟨v, _, rfl, hv, u, _, rfl, hu, rfl⟩ := hargs
     exact hinv (fun consts => by rw [hav]; rfl) (Good.of2 S (good_min _ o.type hv hu (Res2.ans_ok h)))
    ·exact hinv (fun consts => by rw [hav, hat]; rfl) (good_append S _ o.type hargs (Res.ans_ok h))
    ·exact h.elim
   ·rename_i f hcal
    have hf := S.eval f
    unfold evFn at h
    split at h
    ·rename_i g hg
     rw [hg] at hf
     simp only [RVD, RV] at hf
     obtain ⟨hc1, hc2⟩ := call_ok S hΦ h hN hC
     refine Oper.uponIn_call (n := 0) (invoke_fn hcal hf hc1) rfl (hc2 _ ?_)
     simpa using hargs
    ·rename_i g ys zs hg
     rw [hg] at hf
     simp only [RVD] at hf
     obtain ⟨vs, us, hf, h1, h2⟩ := hf
     obtain ⟨hc1, hc2⟩ := call_ok S hΦ h hN hC
     refine Oper.uponIn_call (n := 0) (invoke_fn hcal hf hc1) rfl (hc2 _ ?_)
     have := RVDs.app3 h1 hargs h2
     simpa using this
    ·rename_i l hl
     rw [hl] at hf
     simp only [RVD] at hf
     obtain ⟨b, k, sz, hb, hf⟩ := hf
     have e2 : (do let d ← resolve a.eval c o.type; invoke d.target d.args : Sem Next).run Γ.P w = (Instr.yield b (c.args.map a.eval)).run Γ.P w := by
      simp only [resolve, hcal, hf, Deferred.ofValue, Sem.run_bind, Sem.run_pure, Result.andThen_ok, invoke]
      simp
     rw [e2]
     exact hY l _ _ b k sz hb hargs h
    ·exact h.elim
   ·exact h.elim
 | _ => rw [hop] at h; exact h.elim
end
end Go.Proofs.YtpajpkbipagjpaaGreatDoor.Vm
namespace Go.Proofs.YtpajpkbipagjpaaGreatDoor.Vm
open Go Go.RowKit
def VC (E : Env) (ρ : Option Nat) (c : Code) (st : St) (K : Exit → St → Prop) : Prop :=
 ∀ (Γ : Ctx) (a : Act) (as : List Act) (β : Nat → Pl) (w : World), Γ.toEnv = E → Sim Γ st a as β w →
  c.wpIn (Fw (ρ.map Γ.pin)) 0 E.P (fun e a w => ∃ st' β', Sim Γ st' a as β' w ∧ K e st') a w
def Back (Γ : Ctx) (a : Act) (as : List Act) (K : D → St → Prop) : Ending → World → Prop := fun e w => ∃ v d st β, e = .returned v ∧ Sim Γ st a as β w ∧ RVD w (Im Γ β st.h w) β d v ∧ K d st
def VCcall (E : Env) (g : Nat) (ds : List D) (st : St) (K : D → St → Prop) : Prop :=
 ∀ (Γ : Ctx) (a : Act) (as : List Act) (β : Nat → Pl) (w : World) (args : Array Value), Γ.toEnv = E → Sim Γ st a as β w → RVDs w (Im Γ β st.h w) β ds args.toList →
  CallsIn (Fw none) 0 E.P g args w (Back Γ a as K)
def VCyield (E : Env) (l : Nat) (ds : List D) (st : St) (K : D → St → Prop) : Prop :=
 ∀ (Γ : Ctx) (a : Act) (as : List Act) (β : Nat → Pl) (w : World) (args : Array Value) (b c sz : Nat), Γ.toEnv = E → Sim Γ st a as β w → β l = .blk b c sz → RVDs w (Im Γ β st.h w) β ds args.toList →
  ∃ f tmps assign body, (Instr.yield b args).run E.P w = .ok (.round b f tmps assign body) w ∧ RoundIn (Fw none) 0 E.P b f tmps assign body w (Back Γ a as K)
def putO (st : St) : Option Nat → D → St
 | none, _ => st
 | some t, d => st.put t d
def dstOK (st : St) : Option Nat → Prop
 | none => True
 | some t => t < st.c.n
def gtmp (ops : Array Oper) (j : Nat) : Option Nat := (ops[j]?).bind (·.dst)
def guarded (f : St → Prop) (g : St → Prop) (st : St) (t : Option Nat) (b : Bool) : Prop :=
 match t with
 | none => False
 | some t => match look st.c.t t with
   | .dat (.bool c) => (c = b → f (st.put t (.dat (.bool b)))) ∧ (c = !b → g (st.put t (.dat (.bool !b))))
   | .tup [] => g st
   | _ => False
def goOps (E : Env) (Φ : Fns) (ops : Array Oper) : List Oper → St → (St → Prop) → Prop
 | [], st, K => K st
 | o :: l, st, K =>
   let run : St → Prop := fun st => (ev E Φ st o.op).ok st ⟨fun d s => dstOK s o.dst ∧ goOps E Φ ops l (putO s o.dst d) K, fun s => dstOK s o.dst ∧ goOps E Φ ops l (putO s o.dst (.tup [])) K,
    fun g ds => VCcall E g ds st fun d s => dstOK s o.dst ∧ goOps E Φ ops l (putO s o.dst d) K, fun r ds => VCyield E r ds st fun d s => dstOK s o.dst ∧ goOps E Φ ops l (putO s o.dst d) K⟩
   match o.guard with
   | none => run st
   | some (j, b) => guarded run (fun s => dstOK s o.dst ∧ goOps E Φ ops l (putO s o.dst (.tup [])) K) st (gtmp ops j) b
section
variable {Γ : Ctx} {st : St} {a : Act} {as : List Act} {β : Nat → Pl} {w : World} {Φ : Fns} {ρ : Option Nat} {next : Act → World → Prop} {Q : Exit → Act → World → Prop}
theorem Sim.putO (S : Sim Γ st a as β w) {t : Option Nat} {d : D} {v : Value} (ht : dstOK st t) (hd : RVD w (Im Γ β st.h w) β d v) : Sim Γ (putO st t d) (a.put t v) as β w := by
 cases t with
 | none => exact S
 | some t => exact S.put ht hd
theorem undef_ok {w : World} {I : Cset} : RVD w I β (.tup []) undef := by
 simp only [RVD]
 exact ⟨#[], rfl, by simp only [RVDs]⟩
theorem Sim.know (S : Sim Γ st a as β w) {t : Nat} {d : D} (hd : RVD w (Im Γ β st.h w) β d (a.tmps.getD t undef)) : Sim Γ (st.put t d) a as β w := by
 refine ⟨S.below, S.hJ, S.glob, S.apart, ⟨S.cur.1, fun u => ?_, S.cur.2.2⟩, S.stk, S.heap⟩
 show RVD w (Im Γ β st.h w) β (look ((t, d) :: st.c.t) u) (a.tmps.getD u undef)
 simp only [look]
 by_cases e : t = u
 ·subst e; rw [if_pos rfl]; exact hd
 ·rw [if_neg e]; exact S.cur.2.1 u
theorem getD_bool {xs : Array Value} {t : Nat} {b : Bool} (h : xs.getD t undef = .bool b) : xs[t]? = some (.bool b) := by
 rw [Array.getD_eq_getD_getElem?] at h
 cases hx : xs[t]? with
 | none => rw [hx] at h; cases h
 | some v => rw [hx] at h; simp at h; rw [h]
theorem getD_undef {xs : Array Value} {t : Nat} (h : xs.getD t undef = undef) : ∀ b, xs[t]? ≠ some (.bool b) := by
 intro b hb
 rw [Array.getD_eq_getD_getElem?, hb] at h
 cases h
theorem goOps_ok (hΦ : Sound Γ.toEnv Φ) {ops : Array Oper} {K : St → Prop} (hQ : ∀ st a β w, Sim Γ st a as β w → K st → Q .normal a w) : ∀ (l : List Oper) (i : Nat) (st : St) (a : Act) (β : Nat → Pl) (w : World), ops.toList.drop i = l →
 Sim Γ st a as β w → goOps Γ.toEnv Φ ops l st K → wpOpsIn (Fw ρ) 0 Γ.P ops Q (List.range' i l.length) a w
 | [], i, st, a, β, w, hl, S, h => by
   simp only [List.length_nil, List.range'_zero, wpOpsIn]
   exact hQ st a β w S h
 | o :: l, i, st, a, β, w, hl, S, h => by
   have ho : ops[i]? = some o := by
    have := congrArg List.head? hl
    rw [List.head?_drop] at this
    simpa using this
   have hl' : ops.toList.drop (i + 1) = l := by
    rw [← List.tail_drop, hl]; rfl
   simp only [List.length_cons, List.range'_succ, wpOpsIn, ho]
   have hrun : ∀ (st : St) (S : Sim Γ st a as β w), (ev Γ.toEnv Φ st o.op).ok st ⟨fun d s => dstOK s o.dst ∧ goOps Γ.toEnv Φ ops l (Vm.putO s o.dst d) K, fun s => dstOK s o.dst ∧ goOps Γ.toEnv Φ ops l (Vm.putO s o.dst (.tup [])) K,
    fun g ds => VCcall Γ.toEnv g ds st fun d s => dstOK s o.dst ∧ goOps Γ.toEnv Φ ops l (Vm.putO s o.dst d) K, fun r ds => VCyield Γ.toEnv r ds st fun d s => dstOK s o.dst ∧ goOps Γ.toEnv Φ ops l (Vm.putO s o.dst d) K⟩ →
    o.wpIn (Fw ρ) 0 Γ.P a w (wpOpsIn (Fw ρ) 0 Γ.P ops Q (List.range' (i + 1) l.length)) Q := by
    intro st S h
    refine ev_ok S hΦ o h ?_ ?_ ?_ ?_
    ·rintro v d st' β' w' S' hv ⟨h1, h2⟩
     exact goOps_ok hΦ hQ l (i + 1) _ _ β' w' hl' (S'.putO h1 hv) h2
    ·rintro st' β' w' S' ⟨h1, h2⟩
     exact goOps_ok hΦ hQ l (i + 1) _ _ β' w' hl' (S'.putO h1 undef_ok) h2
    ·intro g ds args hargs hc
     refine (hc Γ a as β w args rfl S hargs).mono fun e w'' he => ?_
     obtain ⟨v, d, st', β', rfl, S', hv, h1, h2⟩ := he
     exact ⟨v, rfl, goOps_ok hΦ hQ l (i + 1) _ _ β' w'' hl' (S'.putO h1 hv) h2⟩
    ·intro r ds args b c sz hb hargs hc
     obtain ⟨f, tmps, assign, body, hr, hround⟩ := hc Γ a as β w args b c sz rfl S hb hargs
     rw [hr]
     refine ⟨fun e => by simp [Fw, Fence.wide] at e, RoundIn.mono (F := Fw ρ) hround fun e w'' he => ?_⟩
     obtain ⟨v, d, st', β', rfl, S', hv, h1, h2⟩ := he
     exact goOps_ok hΦ hQ l (i + 1) _ _ β' w'' hl' (S'.putO h1 hv) h2
   have hskip : ∀ (st : St) (S : Sim Γ st a as β w), dstOK st o.dst ∧ goOps Γ.toEnv Φ ops l (Vm.putO st o.dst (.tup [])) K → (∀ f, o.about Γ.P w a.eval = some f → (Fw ρ).fn f) ∧ wpOpsIn (Fw ρ) 0 Γ.P ops Q (List.range' (i + 1) l.length) (a.put o.dst undef) w := by
    rintro st S ⟨h1, h2⟩
    exact ⟨fun _ _ => trivial, goOps_ok hΦ hQ l (i + 1) _ _ β w hl' (S.putO h1 undef_ok) h2⟩
   unfold goOps at h
   cases hg : o.guard with
   | none =>
     rw [hg] at h
     rw [if_pos (by simp [Region.wanted, hg])]
     exact hrun st S h
   | some jb =>
     obtain ⟨j, b⟩ := jb
     rw [hg] at h
     simp only [guarded] at h
     split at h
     ·exact h.elim
     ·rename_i t ht
      have hget := S.get t
      have hy : yielded ops a.tmps j = match a.tmps[t]? with | some (.bool b) => some b | _ => none := by
       unfold yielded
       rw [show (ops[j]?).bind (·.dst) = some t from ht]
       rfl
      split at h
      ·rename_i c hc
       rw [hc] at hget
       simp only [RVD, RV] at hget
       have hy' : yielded ops a.tmps j = some c := by rw [hy, getD_bool hget]
       by_cases hcb : c = b
       ·rw [if_pos (by simp [Region.wanted, hg, hy', hcb])]
        refine hrun _ (S.know ?_) (h.1 hcb)
        rw [hget, hcb]; simp only [RVD, RV]
       ·rw [if_neg (by simp [Region.wanted, hg, hy', hcb])]
        have hcb' : c = !b := by cases c <;> cases b <;> simp_all
        refine hskip _ (S.know ?_) (h.2 hcb')
        rw [hget, hcb']; simp only [RVD, RV]
      ·rename_i hc
       rw [hc] at hget
       simp only [RVD] at hget
       obtain ⟨vs, hv, hvs⟩ := hget
       simp only [RVDs] at hvs
       have hv' : a.tmps.getD t undef = undef := by
        rw [hv]
        have : vs = #[] := by apply Array.ext'; simpa using hvs
        rw [this]; rfl
       have hy' : yielded ops a.tmps j = none := by
        rw [hy]
        split
        ·rename_i b' hb'
         exact absurd hb' (getD_undef hv' b')
        ·rfl
       rw [if_neg (by simp [Region.wanted, hg, hy'])]
       exact hskip st S h
      ·exact h.elim
end
end Go.Proofs.YtpajpkbipagjpaaGreatDoor.Vm
namespace Go.Proofs.YtpajpkbipagjpaaGreatDoor.Vm
open Go Go.RowKit
def thenK (f : St → Prop) (K : Exit → St → Prop) : Exit → St → Prop
 | .normal, s => f s
 | e, s => K e s
def blockK (id : Nat) (K : Exit → St → Prop) : Exit → St → Prop
 | .exit id', s => if id' = id then K .normal s else K (.exit id') s
 | e, s => K e s
def Ent (st st' : St) : Prop := ∀ (Γ : Ctx) (a : Act) (as : List Act) (β : Nat → Pl) (w : World), Sim Γ st a as β w → ∃ β', Sim Γ st' a as β' w
theorem Ent.trans {s1 s2 s3 : St} (h : Ent s1 s2) (k : Ent s2 s3) : Ent s1 s3 := fun Γ a as β w S => let ⟨β', S'⟩ := h Γ a as β w S; k Γ a as β' w S'
section
variable {E : Env} {Φ : Fns} {ρ : Option Nat} {st : St} {K : Exit → St → Prop}
theorem VC.mono {c : Code} {K' : Exit → St → Prop} (h : VC E ρ c st K) (hk : ∀ e s, K e s → K' e s) : VC E ρ c st K' := fun Γ a as β w hΓ S =>
 wpIn_mono (h Γ a as β w hΓ S) fun e a w ⟨st', β', S', k⟩ => ⟨st', β', S', hk _ _ k⟩
theorem VC.ent {c : Code} {st' : St} (he : Ent st st') (h : VC E ρ c st' K) : VC E ρ c st K := fun Γ a as β w hΓ S =>
 let ⟨β', S'⟩ := he Γ a as β w S
 h Γ a as β' w hΓ S'
theorem VC.skip (h : K .normal st) : VC E ρ .skip st K := fun Γ a as β w hΓ S => wpIn_skip ⟨st, β, S, h⟩
theorem VC.label {l : Nat} (h : K .normal st) : VC E ρ (.label l) st K := fun Γ a as β w hΓ S => wpIn_label ⟨st, β, S, h⟩
theorem VC.exit {id : Nat} (h : K (.exit id) st) : VC E ρ (.exit id) st K := fun Γ a as β w hΓ S => wpIn_exit ⟨st, β, S, h⟩
theorem VC.ret (h : K .ret st) : VC E ρ .ret st K := fun Γ a as β w hΓ S => wpIn_ret ⟨st, β, S, h⟩
theorem VC.seq {x y : Code} (h : VC E ρ x st (thenK (fun s => VC E ρ y s K) K)) : VC E ρ (.seq x y) st K := fun Γ a as β w hΓ S => by
 subst hΓ
 refine wpIn_seq (wpIn_mono (h Γ a as β w rfl S) ?_)
 rintro e a' w' ⟨st', β', S', k⟩
 cases e with
 | normal => exact k Γ a' as β' w' rfl S'
 | _ => exact ⟨st', β', S', k⟩
theorem VC.block {id : Nat} {c : Code} (h : VC E ρ c st (blockK id K)) : VC E ρ (.block id c) st K := fun Γ a as β w hΓ S => by
 refine wpIn_block (wpIn_mono (h Γ a as β w hΓ S) ?_)
 rintro e a' w' ⟨st', β', S', k⟩
 cases e with
 | exit id' =>
   simp only [blockK] at k
   simp only [Exit.inBlock]
   split at k
   ·rename_i e; rw [if_pos e]; exact ⟨st', β', S', k⟩
   ·rename_i e; rw [if_neg e]; exact ⟨st', β', S', k⟩
 | _ => exact ⟨st', β', S', k⟩
def condK (d : D) (f g : Prop) : Prop :=
 match d with
 | .dat (.bool b) => (b = true → f) ∧ (b = false → g)
 | _ => False
theorem VC.cond {c : Operand} {x y : Code} (h : condK (evO E st c) (VC E ρ x st K) (VC E ρ y st K)) : VC E ρ (.cond c x y) st K := fun Γ a as β w hΓ S => by
 subst hΓ
 have hc := S.eval c
 unfold condK at h
 split at h
 ·rename_i b hb
  rw [hb] at hc
  simp only [RVD, RV] at hc
  exact wpIn_cond_split hc (fun e => h.1 e Γ a as β w rfl S) fun e => h.2 e Γ a as β w rfl S
 ·exact h.elim
theorem VC.region {id : Nat} {ops : Array Oper} (hΦ : Sound E Φ) (h : ∀ K' : St → Prop, (∀ s, K .normal s → K' s) → goOps E Φ ops ops.toList st K') : VC E ρ (.region id ops false) st K := fun Γ a as β w hΓ S => by
 subst hΓ
 refine wpIn_region ?_
 have := goOps_ok (Γ := Γ) (as := as) (Q := fun e a w => ∃ st' β', Sim Γ st' a as β' w ∧ K e st') (ρ := ρ.map Γ.pin) hΦ (K := K .normal) (fun st a β w S k => ⟨st, β, S, k⟩) ops.toList 0 st a β w rfl S (h _ fun _ k => k)
 rw [List.range_eq_range']
 exact this
theorem exists_min {T : Nat → Prop} (h : ∃ n, T n) : ∃ n, T n ∧ ∀ m, T m → n ≤ m := by
 obtain ⟨n, hn⟩ := h
 induction n using Nat.strongRecOn with
 | _ n ih =>
   by_cases hl : ∃ m, m < n ∧ T m
   ·obtain ⟨m, hm, hT⟩ := hl
    exact ih m hm hT
   ·exact ⟨n, hn, fun m hm => Nat.le_of_not_lt fun hlt => hl ⟨m, hlt, hm⟩⟩
theorem VC.loop {ι : Type} {c : Code} (I : ι → St) (p : ι → Prop) (μ : ι → Nat) (i0 : ι) (hp : p i0) (h0 : Ent st (I i0))
 (step : ∀ i, p i → VC E ρ c (I i) (thenK (fun s => ∃ j, p j ∧ Ent s (I j) ∧ μ j < μ i) K)) : VC E ρ (.loop c) st K := fun Γ a as β w hΓ S => by
 classical
 let T : Nat → Act → World → Prop := fun n a w => ∃ i β, p i ∧ Sim Γ (I i) a as β w ∧ μ i = n
 let M : Act → World → Nat := fun a w => if h : ∃ n, T n a w then Classical.choose (exists_min h) else 0
 obtain ⟨β0, S0⟩ := h0 Γ a as β w S
 refine wpIn_loop (I := fun a w => ∃ n, T n a w) (μ := M) ⟨_, i0, β0, hp, S0, rfl⟩ ?_
 intro a w hT
 obtain ⟨i, β, hpi, Si, hμ⟩ := (Classical.choose_spec (exists_min hT)).1
 refine wpIn_mono (step i hpi Γ a as β w hΓ Si) ?_
 rintro e a' w' ⟨st', β', S', k⟩
 cases e with
 | normal =>
   obtain ⟨j, hpj, hj, hlt⟩ := k
   obtain ⟨β'', S''⟩ := hj Γ a' as β' w' S'
   have hT' : ∃ n, T n a' w' := ⟨_, j, β'', hpj, S'', rfl⟩
   refine ⟨hT', ?_⟩
   have h1 : M a' w' = Classical.choose (exists_min hT') := dif_pos hT'
   have h2 : M a w = Classical.choose (exists_min hT) := dif_pos hT
   rw [h1, h2]
   exact Nat.lt_of_le_of_lt ((Classical.choose_spec (exists_min hT')).2 _ ⟨j, β'', hpj, S'', rfl⟩) (hμ ▸ hlt)
 | _ => exact ⟨st', β', S', k⟩
theorem VC.cut {ι : Type} {x y : Code} (I : ι → St) (p : ι → Prop) (h : VC E ρ x st (thenK (fun s => ∃ i, p i ∧ Ent s (I i)) K)) (hy : ∀ i, p i → VC E ρ y (I i) K) : VC E ρ (.seq x y) st K := by
 refine VC.seq (h.mono ?_)
 intro e s k
 cases e with
 | normal =>
   obtain ⟨i, hp, he⟩ := k
   exact (hy i hp).ent he
 | _ => exact k
theorem Ent.temps {n : Nat} {t t' : Tm} {m : List Nat} {s : List Fr} {h : List (Nat × Blk)} (ht : ∀ u, look t' u = look t u ∨ look t' u = .junk) : Ent ⟨⟨n, t, m⟩, s, h⟩ ⟨⟨n, t', m⟩, s, h⟩ := fun Γ a as β w S =>
 ⟨β, S.below, S.hJ, S.glob, S.apart, ⟨S.cur.1, fun u => by
  rcases ht u with e | e
  ·show RVD w _ β (look t' u) _
   rw [e]; exact S.cur.2.1 u
  ·show RVD w _ β (look t' u) _
   rw [e]; simp only [RVD], S.cur.2.2⟩, S.stk, S.heap⟩
def keepT (ts : List Nat) (t : Tm) : Tm := ts.map fun u => (u, look t u)
theorem look_keepT (ts : List Nat) (t : Tm) (u : Nat) : look (keepT ts t) u = look t u ∨ look (keepT ts t) u = .junk := by
 induction ts with
 | nil => exact .inr rfl
 | cons x r ih =>
   simp only [keepT, List.map_cons, look]
   by_cases e : x = u
   ·rw [if_pos e, e]; exact .inl rfl
   ·rw [if_neg e]; exact ih
def St.keep (st : St) (ts : List Nat) : St := ⟨⟨st.c.n, keepT ts st.c.t, st.c.m⟩, st.s, st.h⟩
theorem Ent.keep (st : St) (ts : List Nat) : Ent st (st.keep ts) := Ent.temps (look_keepT ts st.c.t)
theorem Im.fewer {Γ : Ctx} {β : Nat → Pl} {h h' : List (Nat × Blk)} {w : World} (hh : ∀ l B, find h' l = some B → find h l = some B) : Keeps w (Im Γ β h w) w (Im Γ β h' w) := fun b o hi =>
 ⟨hi.imp id fun ⟨h1, h2, h3⟩ => ⟨h1, h2, fun l B hB => h3 l B (hh l B hB)⟩, rfl⟩
theorem Ent.fewer {c : Fr} {s : List Fr} {h h' : List (Nat × Blk)} (hh : ∀ l B, find h' l = some B → find h l = some B) : Ent ⟨c, s, h⟩ ⟨c, s, h'⟩ := fun Γ a as β w S => by
 have Kp : Keeps w (Im Γ β h w) w (Im Γ β h' w) := Im.fewer hh
 refine ⟨β, S.below, S.hJ, S.glob.keeps Kp, ?_, S.cur.keeps Kp, S.stk.keeps Kp, ?_⟩
 ·intro l l' B B' b c c' sz sz' h1 h2
  exact S.apart l l' B B' b c c' sz sz' (hh _ _ h1) (hh _ _ h2)
 ·intro l B hB
  exact (S.heap l B (hh l B hB)).keep Kp fun _ _ _ _ => rfl
end
end Go.Proofs.YtpajpkbipagjpaaGreatDoor.Vm
namespace Go.Proofs.YtpajpkbipagjpaaGreatDoor.Vm
open Go Go.RowKit
section
variable {Γ : Ctx} {st : St} {a : Act} {as : List Act} {β : Nat → Pl} {w : World}
theorem load_ref (S : Sim Γ st a as β w) {t : TypeId} {l o : Nat} {cs : List D} {fz : Bool} {d : D} {v' : Value} (hne : kindT Γ.P t ≠ .other) (hx : RVD w (Im Γ β st.h w) β (.ref l o) v') (hf : find st.h l = some (.cells cs fz)) (hd : partD Γ.P t cs o = some d) :
 ∃ v, (do loadVar t (← asAddr v') : Sem Value).run Γ.P w = .ok v w ∧ RVD w (Im Γ β st.h w) β d v := by
 simp only [RVD] at hx
 obtain ⟨b, c, sz, hb, rfl⟩ := hx
 obtain ⟨b', c', sz', cur, e, hb', hge, hh, hcs⟩ := S.heap l _ hf
 rw [hb] at hb'; injection hb' with e1 e2 e3; subst e1
 obtain ⟨v, hrun, hr⟩ := partD_ok (P := Γ.P) hcs hd
 refine ⟨v, ?_, hr⟩
 have hlen := hcs.length
 simp only [part, Sem.run_bind, run_isAgg w hne, Result.andThen_ok] at hrun
 simp only [asAddr, loadVar, Sem.run_bind, Sem.run_pure, Result.andThen_ok, run_isAgg w hne]
 by_cases ha : (kindT Γ.P t).agg = true
 ·simp only [ha, if_true, Sem.run_bind, run_sizeOf w hne, Result.andThen_ok, Sem.run_pure] at hrun ⊢
  have hd' : o + szT Γ.P t ≤ cs.length := by
   unfold partD at hd
   split at hd
   ·cases hd
   ·simp only [ha, if_true] at hd
    split at hd
    ·assumption
    ·cases hd
  have hl : (cur.extract o (o + szT Γ.P t)).toList.length = szT Γ.P t := by simp at hlen ⊢; omega
  have h2 : (loadCells ⟨b, o, none⟩ (cur.extract o (o + szT Γ.P t)).toList.length).run Γ.P w = .ok (cur.extract o (o + szT Γ.P t)).toList.toArray w :=
   run_loadCells_list (P := Γ.P) w ⟨b, o, none⟩ _ (fun j u hj => by
    rw [Addr.add_lit]
    simp only [World.cell?, hh, Option.isSome_none, Bool.false_eq_true, if_false]
    rw [Array.getElem?_toList, Array.getElem?_extract] at hj
    split at hj
    ·exact hj
    ·cases hj)
  rw [hl] at h2
  rw [h2, Array.toArray_toList]
  exact hrun
 ·simp only [ha, if_false, Bool.false_eq_true] at hrun ⊢
  have hcell : w.cell? ⟨b, o, none⟩ = cur[o]? := by simp only [World.cell?, hh, Option.isSome_none, Bool.false_eq_true, if_false]
  cases hv : cur[o]? with
  | none => simp [hv] at hrun
  | some u =>
    simp only [hv, Sem.run_pure, Result.ok.injEq] at hrun
    simp [hcell, hv, hrun]
def resD (P : Program) (s : St) : List ResultVar → Option (List D)
 | [] => some []
 | .tmp t :: r => match resD P s r with
   | some ds => some (look s.c.t t :: ds)
   | none => none
 | .cell x t :: r => match kindT P t, look s.c.t x, resD P s r with
   | .other, _, _ => none
   | _, .ref l o, some ds => match find s.h l with
     | some (.cells cs _) => match partD P t cs o with
       | some d => some (d :: ds)
       | none => none
     | _ => none
   | _, _, _ => none
def tupD : List D → D
 | [d] => d
 | ds => .tup ds
theorem resD_ok (S : Sim Γ st a as β w) {g : ResultVar → Sem Value} (hg1 : ∀ t, g (.tmp t) = pure (a.tmps.getD t undef)) (hg2 : ∀ x t, g (.cell x t) = (do loadVar t (← asAddr (a.tmps.getD x undef)) : Sem Value)) : ∀ {rs : List ResultVar} {ds : List D}, resD Γ.P st rs = some ds →
 ∃ vs : List Value, (rs.mapM g).run Γ.P w = .ok vs w ∧ RVDs w (Im Γ β st.h w) β ds vs
 | [], ds, h => by
   simp only [resD, Option.some.injEq] at h
   subst h
   exact ⟨[], rfl, by simp only [RVDs]⟩
 | .tmp t :: r, ds, h => by
   simp only [resD] at h
   split at h
   ·rename_i ds' hr
    simp only [Option.some.injEq] at h
    subst h
    obtain ⟨vs, h1, h2⟩ := resD_ok S hg1 hg2 hr
    refine ⟨a.tmps.getD t undef :: vs, ?_, by simp only [RVDs]; exact ⟨_, _, rfl, S.get t, h2⟩⟩
    simp only [List.mapM_cons, hg1, Sem.run_bind, Sem.run_pure, Result.andThen_ok, h1]
   ·cases h
 | .cell x t :: r, ds, h => by
   simp only [resD] at h
   split at h
   ·cases h
   ·rename_i l o ds' hl hr hne
    split at h
    ·rename_i cs fz hf
     split at h
     ·rename_i d hd
      simp only [Option.some.injEq] at h
      subst h
      obtain ⟨vs, h1, h2⟩ := resD_ok S hg1 hg2 hr
      have hg := S.get x
      rw [hl] at hg
      obtain ⟨v, h3, h4⟩ := load_ref S (fun e => hne e) hg hf hd
      refine ⟨v :: vs, ?_, by simp only [RVDs]; exact ⟨_, _, rfl, h4, h2⟩⟩
      simp only [List.mapM_cons, hg2]
      rw [Sem.run_bind, h3]
      simp only [Result.andThen_ok, Sem.run_bind, h1, Sem.run_pure]
     ·cases h
    ·cases h
   ·cases h
theorem results_ok (S : Sim Γ st a as β w) {fn : Func} {ds : List D} (h : resD Γ.P st fn.results.toList = some ds) : ∃ v, (results fn a.tmps).run Γ.P w = .ok v w ∧ RVD w (Im Γ β st.h w) β (tupD ds) v := by
 have key : ∀ g : ResultVar → Sem Value, (∀ t, g (.tmp t) = pure (a.tmps.getD t undef)) → (∀ x t, g (.cell x t) = (do loadVar t (← asAddr (a.tmps.getD x undef)) : Sem Value)) →
  ∃ v, (do let vs ← fn.results.mapM g; pure (if h : vs.size = 1 then vs[0] else .tuple vs) : Sem Value).run Γ.P w = .ok v w ∧ RVD w (Im Γ β st.h w) β (tupD ds) v := by
  intro g hg1 hg2
  rw [Sem.run_bind, Array.mapM_eq_mapM_toList, Sem.run_map]
  obtain ⟨vs, h1, h2⟩ := resD_ok S hg1 hg2 h
  rw [h1]
  simp only [Result.andThen_ok, Sem.run_pure]
  refine ⟨_, rfl, ?_⟩
  unfold tupD
  split
  ·rename_i d
   simp only [RVDs] at h2
   obtain ⟨v, _, rfl, hv, rfl⟩ := h2
   simpa using hv
  ·rename_i hne
   have hl := h2.length
   have : ¬ vs.toArray.size = 1 := by
    intro e
    have : ds.length = 1 := by rw [← hl]; simpa using e
    obtain ⟨d, rfl⟩ := List.length_eq_one_iff.1 this
    exact hne d rfl
   rw [dif_neg this]
   simp only [RVD]
   exact ⟨_, rfl, h2⟩
 unfold results
 refine key _ ?_ ?_
 ·intro t; rfl
 ·intro x t; rfl
end
end Go.Proofs.YtpajpkbipagjpaaGreatDoor.Vm

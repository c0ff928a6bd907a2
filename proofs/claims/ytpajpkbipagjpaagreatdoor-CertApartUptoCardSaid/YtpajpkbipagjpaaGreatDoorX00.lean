/- An abstract machine over values, that the program's machine follows it, and its rules (X00). No condition. -/
import Derived.RangeFuncIn
import Derived.Below
import Derived.RowKit
import Derived.Laws.World
import Derived.RangeFuncRecord
import Derived.Maps.AppendAt
import Derived.Laws.AppendOwn
import Derived.Laws.Append
import Derived.Laws.Tables
import Derived.Laws.BytesArg
import Derived.Lib.ConvBytes
import Derived.Laws.CopyRow
import Derived.Lib.Strings
import Derived.Laws.Slices
set_option linter.unusedVariables false
set_option linter.unusedSimpArgs false
namespace Go.Proofs.YtpajpkbipagjpaaGreatDoor.Vm
open Go Go.RowKit
inductive Data where
 | bool (b : Bool)
 | int (k : IntKind) (n : Int)
 | str (s : List UInt8)
 | nilp
 | ptr (cs : List Data)
 | lst (xs : List (List Data))
 | fn (f : Fn)
 | nilf
 | iface (t : TypeId) (d : Data)
 | nili
 | agg (cs : List Data)
 deriving Inhabited
def Data.one : Data → Bool
 | .agg _ => false
 | _ => true
abbrev Cset := Nat → Nat → Prop
mutual
def RV (w : World) (I : Cset) : Data → Value → Prop
 | .bool b, v => v = .bool b
 | .int k n, v => v = .int k n
 | .str s, v => v = .string ⟨s.toArray⟩
 | .nilp, v => v = .pointer none
 | .ptr cs, v => ∃ b o, v = .pointer (some ⟨b, o, none⟩) ∧ RC w I cs b o
 | .lst xs, v => ∃ a n c, v = .slice a n c ∧ n = xs.length ∧ n ≤ c ∧ (xs = [] ∨ ∃ b o sz, a = some ⟨b, o, none⟩ ∧ 0 < sz ∧ RE w I sz xs b o)
 | .fn f, v => v = .func f #[] #[]
 | .nilf, v => v = .nilFunc
 | .iface t d, v => ∃ u, v = .iface t u ∧ RV w I d u
 | .nili, v => v = .nilIface
 | .agg cs, v => ∃ vs, v = .agg vs ∧ RVs w I cs vs.toList
def RVs (w : World) (I : Cset) : List Data → List Value → Prop
 | [], vs => vs = []
 | d :: ds, vs => ∃ v r, vs = v :: r ∧ RV w I d v ∧ RVs w I ds r
def RC (w : World) (I : Cset) : List Data → Nat → Nat → Prop
 | [], _, _ => True
 | d :: ds, b, o => (∃ v, w.cell? ⟨b, o, none⟩ = some v ∧ I b o ∧ d.one = true ∧ RV w I d v) ∧ RC w I ds b (o + 1)
def RE (w : World) (I : Cset) (sz : Nat) : List (List Data) → Nat → Nat → Prop
 | [], _, _ => True
 | x :: xs, b, o => x.length = sz ∧ RC w I x b o ∧ RE w I sz xs b (o + sz)
end
def Keeps (w : World) (I : Cset) (w' : World) (I' : Cset) : Prop := ∀ b o, I b o → I' b o ∧ w'.cell? ⟨b, o, none⟩ = w.cell? ⟨b, o, none⟩
theorem Keeps.refl (w : World) (I : Cset) : Keeps w I w I := fun _ _ h => ⟨h, rfl⟩
theorem Keeps.trans {w1 w2 w3 : World} {I1 I2 I3 : Cset} (h : Keeps w1 I1 w2 I2) (k : Keeps w2 I2 w3 I3) : Keeps w1 I1 w3 I3 := fun b o hi =>
 ⟨(k b o (h b o hi).1).1, (k b o (h b o hi).1).2.trans (h b o hi).2⟩
mutual
theorem RV.keeps {w w' : World} {I I' : Cset} (K : Keeps w I w' I') : ∀ (d : Data) (v : Value), RV w I d v → RV w' I' d v
 | .bool b, v, h => h
 | .int k n, v, h => h
 | .str s, v, h => h
 | .nilp, v, h => h
 | .ptr cs, v, h => by
   simp only [RV] at h ⊢
   obtain ⟨b, o, rfl, hc⟩ := h
   exact ⟨b, o, rfl, RC.keeps K cs b o hc⟩
 | .lst xs, v, h => by
   simp only [RV] at h ⊢
   obtain ⟨a, n, c, rfl, rfl, hn, hc⟩ := h
   refine ⟨a, _, c, rfl, rfl, hn, ?_⟩
   rcases hc with hc | ⟨b, o, sz, rfl, hz, he⟩
   ·exact .inl hc
   ·exact .inr ⟨b, o, sz, rfl, hz, RE.keeps K sz xs b o he⟩
 | .fn f, v, h => h
 | .nilf, v, h => h
 | .iface t d, v, h => by
   simp only [RV] at h ⊢
   obtain ⟨u, rfl, hu⟩ := h
   exact ⟨u, rfl, RV.keeps K d u hu⟩
 | .nili, v, h => h
 | .agg cs, v, h => by
   simp only [RV] at h ⊢
   obtain ⟨vs, rfl, hs⟩ := h
   exact ⟨vs, rfl, RVs.keeps K cs _ hs⟩
theorem RVs.keeps {w w' : World} {I I' : Cset} (K : Keeps w I w' I') : ∀ (ds : List Data) (vs : List Value), RVs w I ds vs → RVs w' I' ds vs
 | [], vs, h => h
 | d :: ds, vs, h => by
   simp only [RVs] at h ⊢
   obtain ⟨v, r, rfl, h1, h2⟩ := h
   exact ⟨v, r, rfl, RV.keeps K d v h1, RVs.keeps K ds r h2⟩
theorem RC.keeps {w w' : World} {I I' : Cset} (K : Keeps w I w' I') : ∀ (ds : List Data) (b o : Nat), RC w I ds b o → RC w' I' ds b o
 | [], _, _, _ => by simp only [RC]
 | d :: ds, b, o, h => by
   simp only [RC] at h ⊢
   obtain ⟨⟨v, hv, hi, ho, hr⟩, h2⟩ := h
   exact ⟨⟨v, ((K b o hi).2).trans hv, (K b o hi).1, ho, RV.keeps K d v hr⟩, RC.keeps K ds b (o + 1) h2⟩
theorem RE.keeps {w w' : World} {I I' : Cset} (K : Keeps w I w' I') : ∀ (sz : Nat) (xs : List (List Data)) (b o : Nat), RE w I sz xs b o → RE w' I' sz xs b o
 | _, [], _, _, _ => by simp only [RE]
 | sz, x :: xs, b, o, h => by
   simp only [RE] at h ⊢
   exact ⟨h.1, RC.keeps K x b o h.2.1, RE.keeps K sz xs b (o + sz) h.2.2⟩
end
theorem RC.at {w : World} {I : Cset} : ∀ {ds : List Data} {b o : Nat}, RC w I ds b o → ∀ (j : Nat) (d : Data), ds[j]? = some d → ∃ v, w.cell? ⟨b, o + j, none⟩ = some v ∧ I b (o + j) ∧ d.one = true ∧ RV w I d v
 | [], _, _, _, j, d, hj => by simp at hj
 | d :: ds, b, o, h, 0, d', hj => by
   simp only [RC] at h
   simp at hj; subst hj
   exact h.1
 | d :: ds, b, o, h, j + 1, d', hj => by
   simp only [RC] at h
   have := RC.at h.2 j d' (by simpa using hj)
   rwa [show o + 1 + j = o + (j + 1) by omega] at this
theorem RC.mk {w : World} {I : Cset} : ∀ {ds : List Data} {b o : Nat}, (∀ (j : Nat) (d : Data), ds[j]? = some d → ∃ v, w.cell? ⟨b, o + j, none⟩ = some v ∧ I b (o + j) ∧ d.one = true ∧ RV w I d v) → RC w I ds b o
 | [], _, _, _ => by simp only [RC]
 | d :: ds, b, o, h => by
   simp only [RC]
   refine ⟨h 0 d rfl, RC.mk fun j d' hj => ?_⟩
   have := h (j + 1) d' (by simpa using hj)
   rwa [show o + (j + 1) = o + 1 + j by omega] at this
theorem RE.at {w : World} {I : Cset} {sz : Nat} : ∀ {xs : List (List Data)} {b o : Nat}, RE w I sz xs b o → ∀ (i : Nat) (x : List Data), xs[i]? = some x → x.length = sz ∧ RC w I x b (o + i * sz)
 | [], _, _, _, i, x, hi => by simp at hi
 | x :: xs, b, o, h, 0, x', hi => by
   simp only [RE] at h
   simp at hi; subst hi
   exact ⟨h.1, by simpa using h.2.1⟩
 | x :: xs, b, o, h, i + 1, x', hi => by
   simp only [RE] at h
   have := RE.at h.2.2 i x' (by simpa using hi)
   rwa [show o + sz + i * sz = o + (i + 1) * sz by rw [Nat.add_mul]; omega] at this
theorem RE.mk {w : World} {I : Cset} {sz : Nat} : ∀ {xs : List (List Data)} {b o : Nat}, (∀ (i : Nat) (x : List Data), xs[i]? = some x → x.length = sz ∧ RC w I x b (o + i * sz)) → RE w I sz xs b o
 | [], _, _, _ => by simp only [RE]
 | x :: xs, b, o, h => by
   simp only [RE]
   have h0 := h 0 x rfl
   refine ⟨h0.1, by simpa using h0.2, RE.mk fun i x' hi => ?_⟩
   have := h (i + 1) x' (by simpa using hi)
   rwa [show o + (i + 1) * sz = o + sz + i * sz by rw [Nat.add_mul]; omega] at this
theorem RVs.length {w : World} {I : Cset} : ∀ {ds : List Data} {vs : List Value}, RVs w I ds vs → vs.length = ds.length
 | [], vs, h => by simp only [RVs] at h; subst h; rfl
 | d :: ds, vs, h => by
   simp only [RVs] at h
   obtain ⟨v, r, rfl, _, h2⟩ := h
   simp [RVs.length h2]
theorem RVs.at {w : World} {I : Cset} : ∀ {ds : List Data} {vs : List Value}, RVs w I ds vs → ∀ (j : Nat) (d : Data), ds[j]? = some d → ∃ v, vs[j]? = some v ∧ RV w I d v
 | [], vs, h, j, d, hj => by simp at hj
 | d :: ds, vs, h, j, d', hj => by
   simp only [RVs] at h
   obtain ⟨v, r, rfl, h1, h2⟩ := h
   cases j with
   | zero => simp at hj; subst hj; exact ⟨v, rfl, h1⟩
   | succ j => exact RVs.at h2 j d' (by simpa using hj)
theorem RVs.mk {w : World} {I : Cset} : ∀ {ds : List Data} {vs : List Value}, vs.length = ds.length → (∀ (j : Nat) (d : Data) (v : Value), ds[j]? = some d → vs[j]? = some v → RV w I d v) → RVs w I ds vs
 | [], vs, h, _ => by simp only [RVs]; exact List.eq_nil_of_length_eq_zero (by simpa using h)
 | d :: ds, [], h, _ => by simp at h
 | d :: ds, v :: vs, h, hr => by
   simp only [RVs]
   exact ⟨v, vs, rfl, hr 0 d v rfl rfl, RVs.mk (by simpa using h) fun j d' v' hj hv => hr (j + 1) d' v' (by simpa using hj) (by simpa using hv)⟩
theorem RV.one {w : World} {I : Cset} {d : Data} {v : Value} (h : RV w I d v) (ho : d.one = true) : v.oneCell' = true := by
 cases d <;> simp only [RV] at h
 case agg => simp [Data.one] at ho
 case ptr => obtain ⟨b, o, rfl, _⟩ := h; rfl
 case lst => obtain ⟨a, n, c, rfl, _⟩ := h; rfl
 case iface => obtain ⟨u, rfl, _⟩ := h; rfl
 all_goals subst h; rfl
end Go.Proofs.YtpajpkbipagjpaaGreatDoor.Vm
namespace Go.Proofs.YtpajpkbipagjpaaGreatDoor.Vm
open Go Go.RowKit
inductive D where
 | dat (d : Data)
 | nilsl
 | junk
 | ref (l o : Nat)
 | sl (l o n : Nat)
 | eref (l i o : Nat)
 | agg (cs : List D)
 | tup (cs : List D)
 | fn (f : Fn) (first captured : List D)
 | yld (l : Nat)
 deriving Inhabited
abbrev Tm := List (Nat × D)
def look : Tm → Nat → D
 | [], _ => .junk
 | x :: r, t => if x.1 = t then x.2 else look r t
inductive Blk where
 | cells (cs : List D) (fz : Bool)
 | arr (e sz : Nat) (xs : List (List Data)) (fz : Nat)
 | loop (tm : Tm) (n : Nat) (ps : List Tmp) (assign body : Code) (state : LoopState) (pend : Option Code)
 | defer
structure Fr where
 n : Nat
 t : Tm
 m : List Nat
structure St where
 c : Fr
 s : List Fr
 h : List (Nat × Blk)
def find : List (Nat × Blk) → Nat → Option Blk
 | [], _ => none
 | x :: r, l => if x.1 = l then some x.2 else find r l
inductive Pl where
 | nil
 | blk (b cap sz : Nat)
 deriving Inhabited
mutual
def RVD (w : World) (I : Cset) (β : Nat → Pl) : D → Value → Prop
 | .dat d, v => RV w I d v
 | .nilsl, v => ∃ a, v = .slice a 0 0
 | .junk, _ => True
 | .ref l o, v => ∃ b c sz, β l = .blk b c sz ∧ v = .pointer (some ⟨b, o, none⟩)
 | .sl l o n, v => (β l = .nil ∧ o = 0 ∧ n = 0 ∧ ∃ a, v = .slice a 0 0) ∨
  (∃ b c sz a, β l = .blk b c sz ∧ o + n ≤ c ∧ v = .slice a n (c - o) ∧ (a = some ⟨b, o * sz, none⟩ ∨ (n = 0 ∧ 0 < o)))
 | .eref l i o, v => ∃ b c sz, β l = .blk b c sz ∧ v = .pointer (some ⟨b, i * sz + o, none⟩)
 | .agg cs, v => ∃ vs, v = .agg vs ∧ RVDs w I β cs vs.toList
 | .tup cs, v => ∃ vs, v = .tuple vs ∧ RVDs w I β cs vs.toList
 | .fn f xs ys, v => ∃ vs us, v = .func f vs us ∧ RVDs w I β xs vs.toList ∧ RVDs w I β ys us.toList
 | .yld l, v => ∃ b c sz, β l = .blk b c sz ∧ v = .func (.yield b) #[] #[]
def RVDs (w : World) (I : Cset) (β : Nat → Pl) : List D → List Value → Prop
 | [], vs => vs = []
 | d :: ds, vs => ∃ v r, vs = v :: r ∧ RVD w I β d v ∧ RVDs w I β ds r
end
mutual
theorem RVD.keeps {w w' : World} {I I' : Cset} {β : Nat → Pl} (K : Keeps w I w' I') : ∀ (d : D) (v : Value), RVD w I β d v → RVD w' I' β d v
 | .dat d, v, h => RV.keeps K d v h
 | .nilsl, v, h => h
 | .junk, v, h => trivial
 | .ref l o, v, h => h
 | .sl l o n, v, h => h
 | .eref l i o, v, h => h
 | .agg cs, v, h => by
   simp only [RVD] at h ⊢
   obtain ⟨vs, rfl, h⟩ := h
   exact ⟨vs, rfl, RVDs.keeps K cs _ h⟩
 | .tup cs, v, h => by
   simp only [RVD] at h ⊢
   obtain ⟨vs, rfl, h⟩ := h
   exact ⟨vs, rfl, RVDs.keeps K cs _ h⟩
 | .fn f xs ys, v, h => by
   simp only [RVD] at h ⊢
   obtain ⟨vs, us, rfl, h1, h2⟩ := h
   exact ⟨vs, us, rfl, RVDs.keeps K xs _ h1, RVDs.keeps K ys _ h2⟩
 | .yld l, v, h => h
theorem RVDs.keeps {w w' : World} {I I' : Cset} {β : Nat → Pl} (K : Keeps w I w' I') : ∀ (ds : List D) (vs : List Value), RVDs w I β ds vs → RVDs w' I' β ds vs
 | [], vs, h => h
 | d :: ds, vs, h => by
   simp only [RVDs] at h ⊢
   obtain ⟨v, r, rfl, h1, h2⟩ := h
   exact ⟨v, r, rfl, RVD.keeps K d v h1, RVDs.keeps K ds r h2⟩
end
theorem RVDs.length {w : World} {I : Cset} {β : Nat → Pl} : ∀ {ds : List D} {vs : List Value}, RVDs w I β ds vs → vs.length = ds.length
 | [], vs, h => by simp only [RVDs] at h; subst h; rfl
 | d :: ds, vs, h => by
   simp only [RVDs] at h
   obtain ⟨v, r, rfl, _, h2⟩ := h
   simp [RVDs.length h2]
theorem RVDs.at {w : World} {I : Cset} {β : Nat → Pl} : ∀ {ds : List D} {vs : List Value}, RVDs w I β ds vs → ∀ (j : Nat) (d : D), ds[j]? = some d → ∃ v, vs[j]? = some v ∧ RVD w I β d v
 | [], vs, h, j, d, hj => by simp at hj
 | d :: ds, vs, h, j, d', hj => by
   simp only [RVDs] at h
   obtain ⟨v, r, rfl, h1, h2⟩ := h
   cases j with
   | zero => simp at hj; subst hj; exact ⟨v, rfl, h1⟩
   | succ j => exact RVDs.at h2 j d' (by simpa using hj)
theorem RVDs.mk {w : World} {I : Cset} {β : Nat → Pl} : ∀ {ds : List D} {vs : List Value}, vs.length = ds.length → (∀ (j : Nat) (d : D) (v : Value), ds[j]? = some d → vs[j]? = some v → RVD w I β d v) → RVDs w I β ds vs
 | [], vs, h, _ => by simp only [RVDs]; exact List.eq_nil_of_length_eq_zero (by simpa using h)
 | d :: ds, [], h, _ => by simp at h
 | d :: ds, v :: vs, h, hr => by
   simp only [RVDs]
   exact ⟨v, vs, rfl, hr 0 d v rfl rfl, RVDs.mk (by simpa using h) fun j d' v' hj hv => hr (j + 1) d' v' (by simpa using hj) (by simpa using hv)⟩
mutual
def D.erase (l : Nat) : D → D
 | .ref k o => if k = l then .junk else .ref k o
 | .sl k o n => if k = l then .junk else .sl k o n
 | .eref k i o => if k = l then .junk else .eref k i o
 | .yld k => if k = l then .junk else .yld k
 | .agg cs => .agg (D.erases l cs)
 | .tup cs => .tup (D.erases l cs)
 | .fn f xs ys => .fn f (D.erases l xs) (D.erases l ys)
 | .dat d => .dat d
 | .nilsl => .nilsl
 | .junk => .junk
def D.erases (l : Nat) : List D → List D
 | [] => []
 | d :: ds => d.erase l :: D.erases l ds
end
mutual
theorem RVD.erase {w : World} {I : Cset} {β β' : Nat → Pl} {l : Nat} (hβ : ∀ k, k ≠ l → β' k = β k) : ∀ (d : D) (v : Value), RVD w I β d v → RVD w I β' (d.erase l) v
 | .dat d, v, h => h
 | .nilsl, v, h => h
 | .junk, v, h => trivial
 | .ref k o, v, h => by
   by_cases e : k = l
   ·simp only [D.erase, if_pos e, RVD]
   ·simp only [D.erase, if_neg e, RVD, hβ k e] at h ⊢; exact h
 | .sl k o n, v, h => by
   by_cases e : k = l
   ·simp only [D.erase, if_pos e, RVD]
   ·simp only [D.erase, if_neg e, RVD, hβ k e] at h ⊢; exact h
 | .eref k i o, v, h => by
   by_cases e : k = l
   ·simp only [D.erase, if_pos e, RVD]
   ·simp only [D.erase, if_neg e, RVD, hβ k e] at h ⊢; exact h
 | .yld k, v, h => by
   by_cases e : k = l
   ·simp only [D.erase, if_pos e, RVD]
   ·simp only [D.erase, if_neg e, RVD, hβ k e] at h ⊢; exact h
 | .agg cs, v, h => by
   simp only [RVD, D.erase] at h ⊢
   obtain ⟨vs, rfl, h⟩ := h
   exact ⟨vs, rfl, RVDs.erase hβ cs _ h⟩
 | .tup cs, v, h => by
   simp only [RVD, D.erase] at h ⊢
   obtain ⟨vs, rfl, h⟩ := h
   exact ⟨vs, rfl, RVDs.erase hβ cs _ h⟩
 | .fn f xs ys, v, h => by
   simp only [RVD, D.erase] at h ⊢
   obtain ⟨vs, us, rfl, h1, h2⟩ := h
   exact ⟨vs, us, rfl, RVDs.erase hβ xs _ h1, RVDs.erase hβ ys _ h2⟩
theorem RVDs.erase {w : World} {I : Cset} {β β' : Nat → Pl} {l : Nat} (hβ : ∀ k, k ≠ l → β' k = β k) : ∀ (ds : List D) (vs : List Value), RVDs w I β ds vs → RVDs w I β' (D.erases l ds) vs
 | [], vs, h => h
 | d :: ds, vs, h => by
   simp only [RVDs, D.erases] at h ⊢
   obtain ⟨v, r, rfl, h1, h2⟩ := h
   exact ⟨v, r, rfl, RVD.erase hβ d v h1, RVDs.erase hβ ds r h2⟩
end
def Tm.erase (l : Nat) : Tm → Tm
 | [] => []
 | x :: r => (x.1, x.2.erase l) :: Tm.erase l r
theorem look_erase (l : Nat) : ∀ (tm : Tm) (t : Nat), look (Tm.erase l tm) t = (look tm t).erase l
 | [], t => by simp only [Tm.erase, look, D.erase]
 | x :: r, t => by
   simp only [Tm.erase, look]
   split
   ·rfl
   ·exact look_erase l r t
def Fr.erase (l : Nat) (f : Fr) : Fr := ⟨f.n, Tm.erase l f.t, f.m⟩
def Blk.erase (l : Nat) : Blk → Blk
 | .cells cs fz => .cells (D.erases l cs) fz
 | .arr e sz xs fz => .arr e sz xs fz
 | .loop tm n ps a b s p => .loop (Tm.erase l tm) n ps a b s p
 | .defer => .defer
def frsErase (l : Nat) : List Fr → List Fr
 | [] => []
 | f :: r => f.erase l :: frsErase l r
def hErase (l : Nat) : List (Nat × Blk) → List (Nat × Blk)
 | [] => []
 | x :: r => if x.1 = l then hErase l r else (x.1, x.2.erase l) :: hErase l r
def St.erase (l : Nat) (st : St) : St := ⟨st.c.erase l, frsErase l st.s, hErase l st.h⟩
theorem find_hErase (l : Nat) : ∀ (h : List (Nat × Blk)) (k : Nat), find (hErase l h) k = if k = l then none else (find h k).map (Blk.erase l)
 | [], k => by simp only [hErase, find, Option.map_none, ite_self]
 | x :: r, k => by
   simp only [hErase]
   by_cases e : x.1 = l
   ·rw [if_pos e, find_hErase l r k]
    by_cases ek : k = l
    ·rw [if_pos ek, if_pos ek]
    ·rw [if_neg ek, if_neg ek]
     simp only [find]
     rw [if_neg (by omega)]
   ·rw [if_neg e]
    simp only [find]
    by_cases ex : x.1 = k
    ·rw [if_pos ex, if_pos ex, if_neg (by omega)]; rfl
    ·rw [if_neg ex, if_neg ex, find_hErase l r k]
structure Env where
 P : Program
 G : Nat → Option (List Data)
structure Ctx extends Env where
 w0 : World
 J : Cset
 pin : Nat → Nat
def Mut (β : Nat → Pl) (l : Nat) : Blk → Nat → Nat → Prop
 | .cells _ fz, b, _ => fz = false ∧ ∃ c sz, β l = .blk b c sz
 | .arr _ _ _ fz, b, o => ∃ c sz, β l = .blk b c sz ∧ fz * sz ≤ o
 | _, b, _ => ∃ c sz, β l = .blk b c sz
def Im (Γ : Ctx) (β : Nat → Pl) (h : List (Nat × Blk)) (w : World) : Cset := fun b o =>
 Γ.J b o ∨ (Γ.w0.heap.size ≤ b ∧ b < w.heap.size ∧ ∀ l B, find h l = some B → ¬ Mut β l B b o)
def FrOK (w : World) (I : Cset) (β : Nat → Pl) (f : Fr) (a : Act) : Prop :=
 a.tmps.size = f.n ∧ (∀ t, RVD w I β (look f.t t) (a.tmps.getD t undef)) ∧
  a.defers = f.m.map fun l => { target := .collected (match β l with | .blk b _ _ => b | .nil => 0), args := #[] }
def FrsOK (w : World) (I : Cset) (β : Nat → Pl) : List Fr → List Act → Prop
 | [], as => as = []
 | f :: r, as => ∃ a as', as = a :: as' ∧ FrOK w I β f a ∧ FrsOK w I β r as'
def BlkOK (Γ : Ctx) (w : World) (I : Cset) (β : Nat → Pl) (l : Nat) : Blk → Prop
 | .cells cs _ => ∃ b c sz cur e, β l = .blk b c sz ∧ Γ.w0.heap.size ≤ b ∧ w.heap[b]? = some (.cells cur e (0, 0)) ∧ RVDs w I β cs cur.toList
 | .arr e sz xs fz => 0 < sz ∧ fz ≤ xs.length ∧ (∀ x ∈ xs, x.length = sz) ∧ ((β l = .nil ∧ xs = []) ∨
  ∃ b cap cur, β l = .blk b cap sz ∧ Γ.w0.heap.size ≤ b ∧ w.heap[b]? = some (.cells cur e (0, 0)) ∧ xs.length ≤ cap ∧ cap ≤ maxLen ∧ cur.size = cap * sz ∧
   ∀ (j : Nat) (d : Data), xs.flatten[j]? = some d → d.one = true ∧ ∃ v, cur[j]? = some v ∧ RV w I d v)
 | .loop tm n ps assign body state pend => ∃ b c sz r, β l = .blk b c sz ∧ Γ.w0.heap.size ≤ b ∧ w.heap[b]? = some (.loop r) ∧ r.params.toList = ps ∧ r.assign = assign ∧ r.body = body ∧
  r.state = state ∧ r.pending = pend ∧ r.tmps.size = n ∧ (state = .exhausted ∨ b = Γ.pin l) ∧ ∀ t, RVD w I β (look tm t) (r.tmps.getD t undef)
 | .defer => ∃ b c sz, β l = .blk b c sz ∧ Γ.w0.heap.size ≤ b ∧ w.heap[b]? = some (.deferred (some []))
def Glob (E : Env) (w : World) (I : Cset) : Prop := ∀ g cs, E.G g = some cs → RC w I cs g 0
structure Sim (Γ : Ctx) (st : St) (a : Act) (as : List Act) (β : Nat → Pl) (w : World) : Prop where
 below : Below Γ.w0.heap.size Γ.w0 w
 hJ : ∀ b o, Γ.J b o → b < Γ.w0.heap.size
 glob : Glob Γ.toEnv w (Im Γ β st.h w)
 apart : ∀ l l' B B' b c c' sz sz', find st.h l = some B → find st.h l' = some B' → β l = .blk b c sz → β l' = .blk b c' sz' → l = l'
 cur : FrOK w (Im Γ β st.h w) β st.c a
 stk : FrsOK w (Im Γ β st.h w) β st.s as
 heap : ∀ l B, find st.h l = some B → BlkOK Γ w (Im Γ β st.h w) β l B
end Go.Proofs.YtpajpkbipagjpaaGreatDoor.Vm
namespace Go.Proofs.YtpajpkbipagjpaaGreatDoor.Vm
open Go Go.RowKit
theorem heap_lt {w : World} {b : Nat} {o : Obj} (h : w.heap[b]? = some o) : b < w.heap.size := (Array.getElem?_eq_some_iff.1 h).1
theorem cell_of_heap {w w' : World} {b : Nat} (h : w'.heap[b]? = w.heap[b]?) (o : Nat) : w'.cell? ⟨b, o, none⟩ = w.cell? ⟨b, o, none⟩ := by
 simp only [World.cell?, h]
theorem find_cons (x : Nat × Blk) (r : List (Nat × Blk)) (l : Nat) : find (x :: r) l = if x.1 = l then some x.2 else find r l := rfl
theorem Mut.erase {β β' : Nat → Pl} {l k : Nat} (hβ : β' k = β k) (B : Blk) (b o : Nat) : Mut β' k (B.erase l) b o ↔ Mut β k B b o := by
 cases B <;> simp only [Blk.erase, Mut, hβ]
theorem BlkOK.carry {Γ : Ctx} {w w' : World} {I I' : Cset} {β β' : Nat → Pl} {l k : Nat} {B : Blk} (K : Keeps w I w' I') (hβ : ∀ k, k ≠ l → β' k = β k) (hk : k ≠ l)
 (hs : ∀ b c sz, β k = .blk b c sz → w'.heap[b]? = w.heap[b]?) (h : BlkOK Γ w I β k B) : BlkOK Γ w' I' β' k (B.erase l) := by
 have hr : ∀ d v, RVD w I β d v → RVD w' I' β' (d.erase l) v := fun d v hd => RVD.erase hβ d v (RVD.keeps K d v hd)
 cases B with
 | cells cs fz =>
   obtain ⟨b, c, sz, cur, e, hb, hge, hh, hc⟩ := h
   exact ⟨b, c, sz, cur, e, by rw [hβ k hk]; exact hb, hge, by rw [hs b c sz hb]; exact hh, RVDs.erase hβ cs _ (RVDs.keeps K cs _ hc)⟩
 | arr e sz xs fz =>
   obtain ⟨h0, h1, h2, h3⟩ := h
   refine ⟨h0, h1, h2, ?_⟩
   rcases h3 with ⟨hb, hx⟩ | ⟨b, cap, cur, hb, hge, hh, hn, hm, hsz, hc⟩
   ·exact .inl ⟨by rw [hβ k hk]; exact hb, hx⟩
   ·refine .inr ⟨b, cap, cur, by rw [hβ k hk]; exact hb, hge, by rw [hs b _ _ hb]; exact hh, hn, hm, hsz, fun j d hj => ?_⟩
    obtain ⟨ho, v, hv, hd⟩ := hc j d hj
    exact ⟨ho, v, hv, RV.keeps K d v hd⟩
 | loop tm n ps assign body state pend =>
   obtain ⟨b, c, sz, r, hb, hge, hh, e1, e2, e3, e4, e5, e6, e7, ht⟩ := h
   exact ⟨b, c, sz, r, by rw [hβ k hk]; exact hb, hge, by rw [hs b c sz hb]; exact hh, e1, e2, e3, e4, e5, e6, e7, fun t => by rw [look_erase]; exact hr _ _ (ht t)⟩
 | defer =>
   obtain ⟨b, c, sz, hb, hge, hh⟩ := h
   exact ⟨b, c, sz, by rw [hβ k hk]; exact hb, hge, by rw [hs b c sz hb]; exact hh⟩
theorem BlkOK.keep {Γ : Ctx} {w w' : World} {I I' : Cset} {β : Nat → Pl} {k : Nat} {B : Blk} (K : Keeps w I w' I')
 (hs : ∀ b c sz, β k = .blk b c sz → w'.heap[b]? = w.heap[b]?) (h : BlkOK Γ w I β k B) : BlkOK Γ w' I' β k B := by
 cases B with
 | cells cs fz =>
   obtain ⟨b, c, sz, cur, e, hb, hge, hh, hc⟩ := h
   exact ⟨b, c, sz, cur, e, hb, hge, by rw [hs b c sz hb]; exact hh, RVDs.keeps K cs _ hc⟩
 | arr e sz xs fz =>
   obtain ⟨h0, h1, h2, h3⟩ := h
   refine ⟨h0, h1, h2, ?_⟩
   rcases h3 with ⟨hb, hx⟩ | ⟨b, cap, cur, hb, hge, hh, hn, hm, hsz, hc⟩
   ·exact .inl ⟨hb, hx⟩
   ·refine .inr ⟨b, cap, cur, hb, hge, by rw [hs b _ _ hb]; exact hh, hn, hm, hsz, fun j d hj => ?_⟩
    obtain ⟨ho, v, hv, hd⟩ := hc j d hj
    exact ⟨ho, v, hv, RV.keeps K d v hd⟩
 | loop tm n ps assign body state pend =>
   obtain ⟨b, c, sz, r, hb, hge, hh, e1, e2, e3, e4, e5, e6, e7, ht⟩ := h
   exact ⟨b, c, sz, r, hb, hge, by rw [hs b c sz hb]; exact hh, e1, e2, e3, e4, e5, e6, e7, fun t => RVD.keeps K _ _ (ht t)⟩
 | defer =>
   obtain ⟨b, c, sz, hb, hge, hh⟩ := h
   exact ⟨b, c, sz, hb, hge, by rw [hs b c sz hb]; exact hh⟩
theorem FrOK.keeps {w w' : World} {I I' : Cset} {β : Nat → Pl} {f : Fr} {a : Act} (K : Keeps w I w' I') (h : FrOK w I β f a) : FrOK w' I' β f a :=
 ⟨h.1, fun t => RVD.keeps K _ _ (h.2.1 t), h.2.2⟩
theorem FrsOK.keeps {w w' : World} {I I' : Cset} {β : Nat → Pl} (K : Keeps w I w' I') : ∀ {fs : List Fr} {as : List Act}, FrsOK w I β fs as → FrsOK w' I' β fs as
 | [], as, h => h
 | f :: r, as, h => by
   simp only [FrsOK] at h ⊢
   obtain ⟨a, as', rfl, h1, h2⟩ := h
   exact ⟨a, as', rfl, h1.keeps K, FrsOK.keeps K h2⟩
theorem FrOK.erase {w : World} {I : Cset} {β β' : Nat → Pl} {l : Nat} {f : Fr} {a : Act} (hβ : ∀ k, k ≠ l → β' k = β k) (hm : l ∉ f.m) (h : FrOK w I β f a) : FrOK w I β' (f.erase l) a := by
 refine ⟨h.1, fun t => ?_, ?_⟩
 ·show RVD w I β' (look (Tm.erase l f.t) t) _
  rw [look_erase]
  exact RVD.erase hβ _ _ (h.2.1 t)
 ·rw [h.2.2]
  show f.m.map _ = f.m.map _
  refine List.map_congr_left fun k hk => ?_
  rw [hβ k (fun e => hm (e ▸ hk))]
def noMark (l : Nat) : List Fr → Prop
 | [] => True
 | f :: r => l ∉ f.m ∧ noMark l r
theorem FrsOK.erase {w : World} {I : Cset} {β β' : Nat → Pl} {l : Nat} (hβ : ∀ k, k ≠ l → β' k = β k) : ∀ {fs : List Fr} {as : List Act}, noMark l fs → FrsOK w I β fs as → FrsOK w I β' (frsErase l fs) as
 | [], as, _, h => h
 | f :: r, as, hm, h => by
   simp only [FrsOK, frsErase] at h ⊢
   obtain ⟨a, as', rfl, h1, h2⟩ := h
   exact ⟨a, as', rfl, h1.erase hβ hm.1, FrsOK.erase hβ hm.2 h2⟩
theorem Glob.keeps {E : Env} {w w' : World} {I I' : Cset} (K : Keeps w I w' I') (h : Glob E w I) : Glob E w' I' := fun g cs hg => RC.keeps K cs g 0 (h g cs hg)
section
variable {Γ : Ctx} {st : St} {a : Act} {as : List Act} {β : Nat → Pl} {w : World}
theorem Sim.drew (S : Sim Γ st a as β w) : Sim Γ st a as β w.drew := by
 have K : Keeps w (Im Γ β st.h w) w.drew (Im Γ β st.h w.drew) := fun b o h => ⟨h, rfl⟩
 exact ⟨S.below.drew, S.hJ, S.glob.keeps K, S.apart, S.cur.keeps K, S.stk.keeps K, fun l B hB => (S.heap l B hB).keep K fun _ _ _ _ => rfl⟩
def Fr.put (f : Fr) (t : Nat) (d : D) : Fr := ⟨f.n, (t, d) :: f.t, f.m⟩
def St.put (st : St) (t : Nat) (d : D) : St := ⟨st.c.put t d, st.s, st.h⟩
theorem FrOK.put {w : World} {I : Cset} {f : Fr} {a : Act} {t : Nat} {d : D} {v : Value} (h : FrOK w I β f a) (ht : t < f.n) (hd : RVD w I β d v) : FrOK w I β (f.put t d) (a.put (some t) v) := by
 obtain ⟨h1, h2, h3⟩ := h
 refine ⟨by simp [Act.put, h1, Fr.put], fun u => ?_, h3⟩
 show RVD w I β (look ((t, d) :: f.t) u) ((a.tmps.setIfInBounds t v).getD u undef)
 simp only [look]
 by_cases e : t = u
 ·subst e
  rw [if_pos rfl]
  simp [Array.getD_eq_getD_getElem?, h1, ht]
  exact hd
 ·rw [if_neg e]
  have := h2 u
  simp only [Array.getD_eq_getD_getElem?] at this ⊢
  rw [Array.getElem?_setIfInBounds_ne e]
  exact this
theorem Sim.put (S : Sim Γ st a as β w) {t : Nat} {d : D} {v : Value} (ht : t < st.c.n) (hd : RVD w (Im Γ β st.h w) β d v) : Sim Γ (st.put t d) (a.put (some t) v) as β w :=
 ⟨S.below, S.hJ, S.glob, S.apart, S.cur.put ht hd, S.stk, S.heap⟩
theorem Sim.get (S : Sim Γ st a as β w) (t : Nat) : RVD w (Im Γ β st.h w) β (look st.c.t t) (a.tmps.getD t undef) := S.cur.2.1 t
def upd (β : Nat → Pl) (l : Nat) (p : Pl) : Nat → Pl := fun k => if k = l then p else β k
theorem upd_same (β : Nat → Pl) (l : Nat) (p : Pl) : upd β l p l = p := if_pos rfl
theorem upd_ne {β : Nat → Pl} {l : Nat} {p : Pl} : ∀ k, k ≠ l → upd β l p k = β k := fun k h => if_neg h
def St.add (st : St) (l : Nat) (B : Blk) : St := ⟨st.c.erase l, frsErase l st.s, (l, B) :: hErase l st.h⟩
def St.noMark (st : St) (l : Nat) : Prop := l ∉ st.c.m ∧ Vm.noMark l st.s
theorem Im.alloc (S : Sim Γ st a as β w) (l : Nat) (B : Blk) (o : Obj) (cap sz : Nat) :
 Keeps w (Im Γ β st.h w) (w.alloc o) (Im Γ (upd β l (.blk w.heap.size cap sz)) ((l, B) :: hErase l st.h) (w.alloc o)) := by
 intro b off h
 have hlt : b < w.heap.size := by
  rcases h with h | h
  ·exact Nat.lt_of_lt_of_le (S.hJ b off h) (by have := S.below.size; omega)
  ·exact h.2.1
 refine ⟨?_, cell_of_heap (Below.heap_alloc w o b hlt) off⟩
 rcases h with h | ⟨h1, h2, h3⟩
 ·exact .inl h
 ·refine .inr ⟨h1, by simp; omega, fun k B' hB' hm => ?_⟩
  rw [find_cons] at hB'
  by_cases e : l = k
  ·subst e
   rw [if_pos rfl] at hB'
   cases hB'
   have hb : b = w.heap.size := by
    have hu := upd_same β l (.blk w.heap.size cap sz)
    cases B <;> simp only [Mut, hu] at hm
    ·obtain ⟨_, c, s, e1⟩ := hm; injection e1 with e1; exact e1.symm
    ·obtain ⟨c, s, e1, _⟩ := hm; injection e1 with e1; exact e1.symm
    ·obtain ⟨c, s, e1⟩ := hm; injection e1 with e1; exact e1.symm
    ·obtain ⟨c, s, e1⟩ := hm; injection e1 with e1; exact e1.symm
   omega
  ·simp only [if_neg e] at hB'
   rw [find_hErase, if_neg (fun h => e h.symm)] at hB'
   obtain ⟨B0, hf, rfl⟩ := Option.map_eq_some_iff.1 hB'
   exact h3 k B0 hf ((Mut.erase (upd_ne k (fun h => e h.symm)) B0 b off).1 hm)
theorem Sim.alloc (S : Sim Γ st a as β w) (l : Nat) (B : Blk) (o : Obj) (cap sz : Nat) (hm : st.noMark l)
 (hB : BlkOK Γ (w.alloc o) (Im Γ (upd β l (.blk w.heap.size cap sz)) ((l, B) :: hErase l st.h) (w.alloc o)) (upd β l (.blk w.heap.size cap sz)) l B) :
 Sim Γ (st.add l B) a as (upd β l (.blk w.heap.size cap sz)) (w.alloc o) := by
 have K := Im.alloc S l B o cap sz
 have hβ : ∀ k, k ≠ l → upd β l (.blk w.heap.size cap sz) k = β k := upd_ne
 have hlt : ∀ k B b c sz, find st.h k = some B → β k = .blk b c sz → b < w.heap.size := by
  intro k B b c sz hf hb
  have := S.heap k B hf
  cases B with
  | cells cs fz => obtain ⟨b', _, _, cur, e, hb', _, hh, _⟩ := this; rw [hb] at hb'; injection hb' with e1; subst e1; exact heap_lt hh
  | arr e sz xs fz =>
    obtain ⟨_, _, _, h3⟩ := this
    rcases h3 with ⟨hb', _⟩ | ⟨b', _, cur, hb', _, hh, _⟩
    ·rw [hb] at hb'; cases hb'
    ·rw [hb] at hb'; injection hb' with e1; subst e1; exact heap_lt hh
  | loop tm n ps assign body state pend => obtain ⟨b', _, _, r, hb', _, hh, _⟩ := this; rw [hb] at hb'; injection hb' with e1; subst e1; exact heap_lt hh
  | defer => obtain ⟨b', _, _, hb', _, hh⟩ := this; rw [hb] at hb'; injection hb' with e1; subst e1; exact heap_lt hh
 refine ⟨S.below.alloc S.below.size o, S.hJ, S.glob.keeps K, ?_, (S.cur.keeps K).erase hβ hm.1, (S.stk.keeps K).erase hβ hm.2, ?_⟩
 ·intro k k' B1 B2 b c c' s s' h1 h2 e1 e2
  simp only [St.add, find_cons, find_hErase] at h1 h2
  by_cases ek : l = k
  ·subst ek
   rw [upd_same] at e1
   injection e1 with e1
   by_cases ek' : l = k'
   ·exact ek'
   ·rw [if_neg ek', if_neg (fun h => ek' h.symm)] at h2
    obtain ⟨B0, hf, _⟩ := Option.map_eq_some_iff.1 h2
    rw [hβ k' (fun h => ek' h.symm)] at e2
    have := hlt k' B0 b c' s' hf e2
    omega
  ·rw [if_neg ek, if_neg (fun h => ek h.symm)] at h1
   obtain ⟨B0, hf, _⟩ := Option.map_eq_some_iff.1 h1
   rw [hβ k (fun h => ek h.symm)] at e1
   by_cases ek' : l = k'
   ·subst ek'
    rw [upd_same] at e2
    injection e2 with e2
    have := hlt k B0 b c s hf e1
    omega
   ·rw [if_neg ek', if_neg (fun h => ek' h.symm)] at h2
    obtain ⟨B0', hf', _⟩ := Option.map_eq_some_iff.1 h2
    rw [hβ k' (fun h => ek' h.symm)] at e2
    exact S.apart k k' B0 B0' b c c' s s' hf hf' e1 e2
 ·intro k B' hB'
  simp only [St.add, find_cons, find_hErase] at hB'
  by_cases ek : l = k
  ·subst ek
   rw [if_pos rfl] at hB'
   cases hB'
   exact hB
  ·rw [if_neg ek, if_neg (fun h => ek h.symm)] at hB'
   obtain ⟨B0, hf, rfl⟩ := Option.map_eq_some_iff.1 hB'
   exact (S.heap k B0 hf).carry K hβ (fun h => ek h.symm) fun b c s hb => Below.heap_alloc w o b (hlt k B0 b c s hf hb)
end
end Go.Proofs.YtpajpkbipagjpaaGreatDoor.Vm
namespace Go.Proofs.YtpajpkbipagjpaaGreatDoor.Vm
open Go Go.RowKit
def hSet (l : Nat) (B : Blk) : List (Nat × Blk) → List (Nat × Blk)
 | [] => []
 | x :: r => if x.1 = l then (l, B) :: r else x :: hSet l B r
theorem find_hSet (l : Nat) (B : Blk) : ∀ (h : List (Nat × Blk)) (k : Nat), find (hSet l B h) k = if k = l then (find h k).map (fun _ => B) else find h k
 | [], k => by simp only [hSet, find, Option.map_none, ite_self]
 | x :: r, k => by
   simp only [hSet]
   by_cases e : x.1 = l
   ·rw [if_pos e]
    simp only [find]
    by_cases ek : l = k
    ·rw [if_pos ek, if_pos ek.symm, if_pos (by omega)]; rfl
    ·rw [if_neg ek, if_neg (fun h => ek h.symm), if_neg (by omega)]
   ·rw [if_neg e]
    simp only [find]
    by_cases ex : x.1 = k
    ·rw [if_pos ex, if_neg (by omega), if_pos ex]
    ·rw [if_neg ex, if_neg ex, find_hSet l B r k]
def St.setB (st : St) (l : Nat) (B : Blk) : St := ⟨st.c, st.s, hSet l B st.h⟩
section
variable {Γ : Ctx} {st : St} {a : Act} {as : List Act} {β : Nat → Pl} {w : World}
theorem Sim.turn (S : Sim Γ st a as β w) {l : Nat} {B B' : Blk} {w' : World} (hf : find st.h l = some B) (hbelow : Below Γ.w0.heap.size Γ.w0 w') (hsize : w.heap.size ≤ w'.heap.size)
 (hcell : ∀ b o, Im Γ β st.h w b o → w'.cell? ⟨b, o, none⟩ = w.cell? ⟨b, o, none⟩) (hmut : ∀ b o, Mut β l B' b o → Mut β l B b o)
 (hother : ∀ k B2 b c sz, k ≠ l → find st.h k = some B2 → β k = .blk b c sz → w'.heap[b]? = w.heap[b]?)
 (hB' : Keeps w (Im Γ β st.h w) w' (Im Γ β (hSet l B' st.h) w') → BlkOK Γ w' (Im Γ β (hSet l B' st.h) w') β l B') : Sim Γ (st.setB l B') a as β w' := by
 have K : Keeps w (Im Γ β st.h w) w' (Im Γ β (hSet l B' st.h) w') := by
  intro b o h
  refine ⟨?_, hcell b o h⟩
  rcases h with h | ⟨h1, h2, h3⟩
  ·exact .inl h
  ·refine .inr ⟨h1, by omega, fun k B2 hB2 hm => ?_⟩
   rw [find_hSet] at hB2
   by_cases e : k = l
   ·subst e
    rw [if_pos rfl, hf] at hB2
    cases hB2
    exact h3 k B hf (hmut b o hm)
   ·rw [if_neg e] at hB2
    exact h3 k B2 hB2 hm
 refine ⟨hbelow, S.hJ, S.glob.keeps K, ?_, S.cur.keeps K, S.stk.keeps K, ?_⟩
 ·intro k k' B1 B2 b c c' s s' h1 h2 e1 e2
  simp only [St.setB, find_hSet] at h1 h2
  have g : ∀ k B1, (if k = l then (find st.h k).map (fun _ => B') else find st.h k) = some B1 → ∃ B0, find st.h k = some B0 := by
   intro k B1 h
   split at h
   ·obtain ⟨B0, h0, _⟩ := Option.map_eq_some_iff.1 h; exact ⟨B0, h0⟩
   ·exact ⟨B1, h⟩
  obtain ⟨C1, f1⟩ := g k B1 h1
  obtain ⟨C2, f2⟩ := g k' B2 h2
  exact S.apart k k' C1 C2 b c c' s s' f1 f2 e1 e2
 ·intro k B2 hB2
  simp only [St.setB, find_hSet] at hB2
  by_cases e : k = l
  ·subst e
   rw [if_pos rfl, hf] at hB2
   cases hB2
   exact hB' K
  ·rw [if_neg e] at hB2
   exact (S.heap k B2 hB2).keep K fun b c sz hb => hother k B2 b c sz e hB2 hb
theorem Sim.lt (S : Sim Γ st a as β w) {k : Nat} {B : Blk} {b c sz : Nat} (hf : find st.h k = some B) (hb : β k = .blk b c sz) : b < w.heap.size ∧ Γ.w0.heap.size ≤ b := by
 have := S.heap k B hf
 cases B with
 | cells cs fz => obtain ⟨b', _, _, cur, e, hb', hge, hh, _⟩ := this; rw [hb] at hb'; injection hb' with e1; subst e1; exact ⟨heap_lt hh, hge⟩
 | arr e sz xs fz =>
   obtain ⟨_, _, _, h3⟩ := this
   rcases h3 with ⟨hb', _⟩ | ⟨b', _, cur, hb', hge, hh, _⟩
   ·rw [hb] at hb'; cases hb'
   ·rw [hb] at hb'; injection hb' with e1; subst e1; exact ⟨heap_lt hh, hge⟩
 | loop tm n ps assign body state pend => obtain ⟨b', _, _, r, hb', hge, hh, _⟩ := this; rw [hb] at hb'; injection hb' with e1; subst e1; exact ⟨heap_lt hh, hge⟩
 | defer => obtain ⟨b', _, _, hb', hge, hh⟩ := this; rw [hb] at hb'; injection hb' with e1; subst e1; exact ⟨heap_lt hh, hge⟩
def Blk.frz : Blk → Blk
 | .cells cs _ => .cells cs true
 | .arr e sz xs _ => .arr e sz xs xs.length
 | B => B
theorem Sim.frz (S : Sim Γ st a as β w) {l : Nat} {B : Blk} (hf : find st.h l = some B) : Sim Γ (st.setB l B.frz) a as β w := by
 refine S.turn hf S.below (Nat.le_refl _) (fun _ _ _ => rfl) ?_ (fun _ _ _ _ _ _ _ _ => rfl) ?_
 ·intro b o h
  have hB := S.heap l B hf
  cases B with
  | cells cs fz => simp only [Blk.frz, Mut] at h; exact absurd h.1 (by simp)
  | arr e sz xs fz =>
    simp only [Blk.frz, Mut] at h ⊢
    obtain ⟨c, s, e1, e2⟩ := h
    refine ⟨c, s, e1, Nat.le_trans (Nat.mul_le_mul_right _ hB.2.1) e2⟩
  | loop => exact h
  | defer => exact h
 ·intro K
  have hB := (S.heap l B hf).keep K (fun _ _ _ _ => rfl)
  cases B with
  | cells cs fz => exact hB
  | arr e sz xs fz => exact ⟨hB.1, Nat.le_refl _, hB.2.2⟩
  | loop => exact hB
  | defer => exact hB
theorem Sim.called (S : Sim Γ st a as β w) {w' : World} (h : Below w.heap.size w w') : Sim Γ st a as β w' ∧ Keeps w (Im Γ β st.h w) w' (Im Γ β st.h w') := by
 have K : Keeps w (Im Γ β st.h w) w' (Im Γ β st.h w') := by
  intro b o hi
  have hlt : b < w.heap.size := by
   rcases hi with hi | hi
   ·exact Nat.lt_of_lt_of_le (S.hJ b o hi) S.below.size
   ·exact hi.2.1
  refine ⟨?_, cell_of_heap (h.block b hlt) o⟩
  rcases hi with hi | ⟨h1, h2, h3⟩
  ·exact .inl hi
  ·exact .inr ⟨h1, Nat.lt_of_lt_of_le h2 h.size, h3⟩
 refine ⟨⟨S.below.trans ⟨h.os, h.tape, h.output, h.size, fun i hi => h.block i (Nat.lt_of_lt_of_le hi S.below.size)⟩, S.hJ, S.glob.keeps K, S.apart, S.cur.keeps K, S.stk.keeps K, ?_⟩, K⟩
 intro k B hf
 exact (S.heap k B hf).keep K fun b c sz hb => h.block b (S.lt hf hb).1
end
end Go.Proofs.YtpajpkbipagjpaaGreatDoor.Vm
namespace Go.Proofs.YtpajpkbipagjpaaGreatDoor.Vm
open Go Go.RowKit
section
variable {Γ : Ctx} {st : St} {a : Act} {as : List Act} {β : Nat → Pl} {w : World}
theorem noMark_erase (l k : Nat) : ∀ (fs : List Fr), noMark l fs → noMark l (frsErase k fs)
 | [], _ => trivial
 | f :: r, h => ⟨h.1, noMark_erase l k r h.2⟩
theorem find_erase {l k : Nat} {B : Blk} (h : find (st.erase l).h k = some B) : k ≠ l ∧ ∃ B0, find st.h k = some B0 ∧ B = B0.erase l := by
 simp only [St.erase, find_hErase] at h
 by_cases e : k = l
 ·rw [if_pos e] at h; cases h
 ·rw [if_neg e] at h
  obtain ⟨B0, h0, h1⟩ := Option.map_eq_some_iff.1 h
  exact ⟨e, B0, h0, h1.symm⟩
theorem Im.drop (Γ : Ctx) (st : St) (β : Nat → Pl) (w : World) (l : Nat) : Keeps w (Im Γ β st.h w) w (Im Γ β (st.erase l).h w) := by
 intro b o h
 refine ⟨?_, rfl⟩
 rcases h with h | ⟨h1, h2, h3⟩
 ·exact .inl h
 ·refine .inr ⟨h1, h2, fun k B hB hmu => ?_⟩
  obtain ⟨_, B0, hf, rfl⟩ := find_erase hB
  exact h3 k B0 hf ((Mut.erase rfl B0 b o).1 hmu)
theorem Sim.drop (S : Sim Γ st a as β w) (l : Nat) (hm : st.noMark l) : Sim Γ (st.erase l) a as β w := by
 have hfind := fun k B => @find_erase st l k B
 have K := Im.drop Γ st β w l
 refine ⟨S.below, S.hJ, S.glob.keeps K, ?_, (S.cur.keeps K).erase (fun _ _ => rfl) hm.1, (S.stk.keeps K).erase (fun _ _ => rfl) hm.2, ?_⟩
 ·intro k k' B1 B2 b c c' s s' h1 h2 e1 e2
  obtain ⟨_, C1, f1, _⟩ := hfind k B1 h1
  obtain ⟨_, C2, f2, _⟩ := hfind k' B2 h2
  exact S.apart k k' C1 C2 b c c' s s' f1 f2 e1 e2
 ·intro k B hB
  obtain ⟨hk, B0, hf, rfl⟩ := hfind k B hB
  exact (S.heap k B0 hf).carry K (fun _ _ => rfl) hk fun _ _ _ _ => rfl
theorem Sim.rename (S : Sim Γ st a as β w) {l l' e sz fz : Nat} {xs : List (List Data)} (hf : find st.h l = some (.arr e sz xs fz)) (hm : st.noMark l) (hm' : st.noMark l') :
 Sim Γ ((st.erase l).add l' (.arr e sz xs fz)) a as (upd β l' (β l)) w ∧ Keeps w (Im Γ β st.h w) w (Im Γ (upd β l' (β l)) ((st.erase l).add l' (.arr e sz xs fz)).h w) := by
 have hfind : ∀ k B, find ((st.erase l).add l' (.arr e sz xs fz)).h k = some B → (k = l' ∧ B = .arr e sz xs fz) ∨ (k ≠ l' ∧ k ≠ l ∧ ∃ B0, find st.h k = some B0 ∧ B = (B0.erase l).erase l') := by
  intro k B h
  simp only [St.add, find_cons, find_hErase, St.erase] at h
  by_cases e : l' = k
  ·rw [if_pos e] at h; cases h; exact .inl ⟨e.symm, rfl⟩
  ·rw [if_neg e, if_neg (fun h => e h.symm)] at h
   obtain ⟨B1, h0, h1⟩ := Option.map_eq_some_iff.1 h
   by_cases e2 : k = l
   ·rw [if_pos e2] at h0; cases h0
   ·rw [if_neg e2] at h0
    obtain ⟨B0, h2, h3⟩ := Option.map_eq_some_iff.1 h0
    exact .inr ⟨fun h => e h.symm, e2, B0, h2, by rw [← h1, ← h3]⟩
 have hβ : ∀ k, k ≠ l' → upd β l' (β l) k = β k := upd_ne
 have hmut : ∀ b o, Mut (upd β l' (β l)) l' (.arr e sz xs fz) b o → Mut β l (.arr e sz xs fz) b o := by
  intro b o h
  simpa only [Mut, upd_same] using h
 have K : Keeps w (Im Γ β st.h w) w (Im Γ (upd β l' (β l)) ((st.erase l).add l' (.arr e sz xs fz)).h w) := by
  intro b o h
  refine ⟨?_, rfl⟩
  rcases h with h | ⟨h1, h2, h3⟩
  ·exact .inl h
  ·refine .inr ⟨h1, h2, fun k B hB hmu => ?_⟩
   rcases hfind k B hB with ⟨rfl, rfl⟩ | ⟨hk', hk, B0, h0, rfl⟩
   ·exact h3 l _ hf (hmut b o hmu)
   ·exact h3 k B0 h0 ((Mut.erase rfl B0 b o).1 ((Mut.erase (hβ k hk') _ b o).1 hmu))
 refine ⟨⟨S.below, S.hJ, S.glob.keeps K, ?_, ?_, ?_, ?_⟩, K⟩
 ·intro k k' B1 B2 b c c' s s' h1 h2 e1 e2
  have g : ∀ k B1, find ((st.erase l).add l' (.arr e sz xs fz)).h k = some B1 → ∃ k0 C, find st.h k0 = some C ∧ upd β l' (β l) k = β k0 ∧ (k = l' ∧ k0 = l ∨ k ≠ l' ∧ k ≠ l ∧ k0 = k) := by
   intro k B1 h
   rcases hfind k B1 h with ⟨rfl, rfl⟩ | ⟨hk', hk, B0, h0, rfl⟩
   ·exact ⟨l, _, hf, upd_same _ _ _, .inl ⟨rfl, rfl⟩⟩
   ·exact ⟨k, B0, h0, hβ k hk', .inr ⟨hk', hk, rfl⟩⟩
  obtain ⟨k0, C1, f1, u1, q1⟩ := g k B1 h1
  obtain ⟨k0', C2, f2, u2, q2⟩ := g k' B2 h2
  have := S.apart k0 k0' C1 C2 b c c' s s' f1 f2 (u1 ▸ e1) (u2 ▸ e2)
  subst this
  rcases q1 with ⟨a1, a2⟩ | ⟨a1, a2, a3⟩ <;> rcases q2 with ⟨b1, b2⟩ | ⟨b1, b2, b3⟩
  ·rw [a1, b1]
  ·exact absurd (b3.symm.trans a2) b2
  ·exact absurd (a3.symm.trans b2) a2
  ·exact a3.symm.trans b3
 ·exact ((S.cur.keeps K).erase (fun _ _ => rfl) hm.1).erase hβ hm'.1
 ·exact ((S.stk.keeps K).erase (fun _ _ => rfl) hm.2).erase hβ (noMark_erase l' l _ hm'.2)
 ·intro k B hB
  rcases hfind k B hB with ⟨rfl, rfl⟩ | ⟨hk', hk, B0, h0, rfl⟩
  ·have h1 := (S.heap l _ hf).keep K (fun _ _ _ _ => rfl)
   obtain ⟨p1, p2, p3, p4⟩ := h1
   refine ⟨p1, p2, p3, ?_⟩
   rw [upd_same]
   rcases p4 with ⟨q1, q2⟩ | ⟨b, cap, cur, q1, q2, q3, q4⟩
   ·exact .inl ⟨q1, q2⟩
   ·exact .inr ⟨b, cap, cur, q1, q2, q3, q4⟩
  ·exact ((S.heap k B0 h0).carry K (fun _ _ => rfl) hk fun _ _ _ _ => rfl).carry (Keeps.refl _ _) hβ hk' fun _ _ _ _ => rfl
theorem Im.nilin (S : Sim Γ st a as β w) (l e sz : Nat) (hsz : 0 < sz) (hm : st.noMark l) : Keeps w (Im Γ β st.h w) w (Im Γ (upd β l .nil) (st.add l (.arr e sz [] 0)).h w) := by
 have hβ : ∀ k, k ≠ l → upd β l .nil k = β k := upd_ne
 have hfind : ∀ k B, find (st.add l (.arr e sz [] 0)).h k = some B → (k = l ∧ B = .arr e sz [] 0) ∨ (k ≠ l ∧ ∃ B0, find st.h k = some B0 ∧ B = B0.erase l) := by
  intro k B h
  simp only [St.add, find_cons, find_hErase] at h
  by_cases e : l = k
  ·rw [if_pos e] at h; cases h; exact .inl ⟨e.symm, rfl⟩
  ·rw [if_neg e, if_neg (fun h => e h.symm)] at h
   obtain ⟨B1, h0, h1⟩ := Option.map_eq_some_iff.1 h
   exact .inr ⟨fun h => e h.symm, B1, h0, h1.symm⟩
 intro b o h
 refine ⟨?_, rfl⟩
 rcases h with h | ⟨h1, h2, h3⟩
 ·exact .inl h
 ·refine .inr ⟨h1, h2, fun k B hB hmu => ?_⟩
  rcases hfind k B hB with ⟨rfl, rfl⟩ | ⟨hk, B0, h0, rfl⟩
  ·simp only [Mut, upd_same] at hmu
   obtain ⟨_, _, h, _⟩ := hmu; cases h
  ·exact h3 k B0 h0 ((Mut.erase (hβ k hk) B0 b o).1 hmu)
theorem Sim.nilin (S : Sim Γ st a as β w) (l e sz : Nat) (hsz : 0 < sz) (hm : st.noMark l) : Sim Γ (st.add l (.arr e sz [] 0)) a as (upd β l .nil) w := by
 have hβ : ∀ k, k ≠ l → upd β l .nil k = β k := upd_ne
 have hfind : ∀ k B, find (st.add l (.arr e sz [] 0)).h k = some B → (k = l ∧ B = .arr e sz [] 0) ∨ (k ≠ l ∧ ∃ B0, find st.h k = some B0 ∧ B = B0.erase l) := by
  intro k B h
  simp only [St.add, find_cons, find_hErase] at h
  by_cases e : l = k
  ·rw [if_pos e] at h; cases h; exact .inl ⟨e.symm, rfl⟩
  ·rw [if_neg e, if_neg (fun h => e h.symm)] at h
   obtain ⟨B1, h0, h1⟩ := Option.map_eq_some_iff.1 h
   exact .inr ⟨fun h => e h.symm, B1, h0, h1.symm⟩
 have K : Keeps w (Im Γ β st.h w) w (Im Γ (upd β l .nil) (st.add l (.arr e sz [] 0)).h w) := by
  intro b o h
  refine ⟨?_, rfl⟩
  rcases h with h | ⟨h1, h2, h3⟩
  ·exact .inl h
  ·refine .inr ⟨h1, h2, fun k B hB hmu => ?_⟩
   rcases hfind k B hB with ⟨rfl, rfl⟩ | ⟨hk, B0, h0, rfl⟩
   ·simp only [Mut, upd_same] at hmu
    obtain ⟨_, _, h, _⟩ := hmu; cases h
   ·exact h3 k B0 h0 ((Mut.erase (hβ k hk) B0 b o).1 hmu)
 refine ⟨S.below, S.hJ, S.glob.keeps K, ?_, (S.cur.keeps K).erase hβ hm.1, (S.stk.keeps K).erase hβ hm.2, ?_⟩
 ·intro k k' B1 B2 b c c' s s' h1 h2 e1 e2
  rcases hfind k B1 h1 with ⟨rfl, rfl⟩ | ⟨hk, C1, f1, rfl⟩
  ·rw [upd_same] at e1; cases e1
  ·rcases hfind k' B2 h2 with ⟨rfl, rfl⟩ | ⟨hk', C2, f2, rfl⟩
   ·rw [upd_same] at e2; cases e2
   ·exact S.apart k k' C1 C2 b c c' s s' f1 f2 (by rw [← hβ k hk]; exact e1) (by rw [← hβ k' hk']; exact e2)
 ·intro k B hB
  rcases hfind k B hB with ⟨rfl, rfl⟩ | ⟨hk, B0, h0, rfl⟩
  ·exact ⟨hsz, Nat.le_refl _, by simp, .inl ⟨upd_same _ _ _, rfl⟩⟩
  ·exact (S.heap k B0 h0).carry K hβ hk fun _ _ _ _ => rfl
theorem flatten_length {α : Type} {sz : Nat} : ∀ {xs : List (List α)}, (∀ x ∈ xs, x.length = sz) → xs.flatten.length = xs.length * sz
 | [], _ => by simp
 | x :: xs, h => by
   rw [List.flatten_cons, List.length_append, h x (by simp), flatten_length (fun y hy => h y (by simp [hy])), List.length_cons, Nat.add_mul]; omega
theorem flatten_take {α : Type} {sz : Nat} : ∀ {xs : List (List α)} (n : Nat), (∀ x ∈ xs, x.length = sz) → (xs.take n).flatten = xs.flatten.take (n * sz)
 | [], n, _ => by simp
 | x :: xs, 0, _ => by simp
 | x :: xs, n + 1, h => by
   have hx : x.length = sz := h x (by simp)
   have h1 : List.take ((n + 1) * sz) x = x := List.take_of_length_le (by rw [hx, Nat.add_mul]; omega)
   have h2 : (n + 1) * sz - x.length = n * sz := by rw [hx, Nat.add_mul]; omega
   rw [List.take_succ_cons, List.flatten_cons, List.flatten_cons, flatten_take n (fun y hy => h y (by simp [hy])), List.take_append, h1, h2]
theorem Sim.take (S : Sim Γ st a as β w) {l e sz fz : Nat} {xs : List (List Data)} (n : Nat) (hf : find st.h l = some (.arr e sz xs fz)) (hn : n ≤ xs.length) (hz : fz ≤ n) :
 Sim Γ (st.setB l (.arr e sz (xs.take n) fz)) a as β w := by
 refine S.turn hf S.below (Nat.le_refl _) (fun _ _ _ => rfl) (fun _ _ h => h) (fun _ _ _ _ _ _ _ _ => rfl) fun K => ?_
 obtain ⟨p1, p2, p3, p4⟩ := (S.heap l _ hf).keep K (fun _ _ _ _ => rfl)
 refine ⟨p1, by rw [List.length_take]; omega, fun x hx => p3 x (List.mem_of_mem_take hx), ?_⟩
 rcases p4 with ⟨q1, q2⟩ | ⟨b, cap, cur, q1, q2, q3, q4, q5, q6, q7⟩
 ·exact .inl ⟨q1, by rw [q2]; simp⟩
 ·refine .inr ⟨b, cap, cur, q1, q2, q3, by rw [List.length_take]; omega, q5, q6, fun j d hj => ?_⟩
  rw [flatten_take n p3] at hj
  exact q7 j d (by rw [List.getElem?_take] at hj; split at hj <;> simp_all)
end
end Go.Proofs.YtpajpkbipagjpaaGreatDoor.Vm
namespace Go.Proofs.YtpajpkbipagjpaaGreatDoor.Vm
open Go Go.RowKit
def Src (w : World) (I : Cset) (sz : Nat) (ys : List (List Data)) (x : Value) : Prop :=
 (∀ y ∈ ys, y.length = sz) ∧ ((∃ c, x = .slice none 0 c ∧ ys = []) ∨ ∃ ad m c, x = .slice (some ad) m c ∧ m = ys.length ∧ ∃ news : List Value, news.length = m * sz ∧
  (∀ (j : Nat) (u : Value), news[j]? = some u → w.cell? (ad.add j) = some u) ∧ ∀ (j : Nat) (d : Data), ys.flatten[j]? = some d → d.one = true ∧ ∃ u, news[j]? = some u ∧ RV w I d u)
section
variable {Γ : Ctx} {st : St} {a : Act} {as : List Act} {β : Nat → Pl} {w : World}
theorem news_one {w : World} {I : Cset} {sz : Nat} {ys : List (List Data)} {news : List Value} (hys : ∀ y ∈ ys, y.length = sz) (hl : news.length = ys.length * sz)
 (h : ∀ (j : Nat) (d : Data), ys.flatten[j]? = some d → d.one = true ∧ ∃ u, news[j]? = some u ∧ RV w I d u) : ∀ u ∈ news, u.oneCell' = true := by
 intro u hu
 obtain ⟨j, hj⟩ := List.mem_iff_getElem?.1 hu
 have hlt : j < ys.flatten.length := by
  rw [flatten_length hys, ← hl]
  exact (List.getElem?_eq_some_iff.1 hj).1
 obtain ⟨ho, u', hu', hr⟩ := h j _ (List.getElem?_eq_getElem hlt)
 rw [hj] at hu'
 cases hu'
 exact hr.one ho
theorem cells_append {w : World} {I : Cset} {sz n : Nat} {xs ys : List (List Data)} {olds news tail : List Value} (hxs : ∀ x ∈ xs, x.length = sz) (hlo : olds.length = xs.length * sz)
 (ho : ∀ (j : Nat) (d : Data), xs.flatten[j]? = some d → d.one = true ∧ ∃ v, olds[j]? = some v ∧ RV w I d v)
 (hl : news.length = ys.length * sz) (hn : ∀ (j : Nat) (d : Data), ys.flatten[j]? = some d → d.one = true ∧ ∃ u, news[j]? = some u ∧ RV w I d u) :
 ∀ (j : Nat) (d : Data), (xs ++ ys).flatten[j]? = some d → d.one = true ∧ ∃ v, (olds ++ news ++ tail)[j]? = some v ∧ RV w I d v := by
 intro j d hj
 rw [List.flatten_append] at hj
 have hfl := flatten_length hxs
 rcases Nat.lt_or_ge j xs.flatten.length with hlt | hge
 ·rw [List.getElem?_append_left hlt] at hj
  obtain ⟨h1, v, hv, hr⟩ := ho j d hj
  refine ⟨h1, v, ?_, hr⟩
  rw [List.append_assoc, List.getElem?_append_left (by omega)]
  exact hv
 ·rw [List.getElem?_append_right hge] at hj
  obtain ⟨h1, v, hv, hr⟩ := hn _ d hj
  refine ⟨h1, v, ?_, hr⟩
  rw [List.append_assoc, List.getElem?_append_right (by omega), List.getElem?_append_left (by have := (List.getElem?_eq_some_iff.1 hv).1; omega)]
  rw [hlo, ← hfl]
  exact hv
theorem setB_add (st : St) (l : Nat) (B B' : Blk) : (st.add l B).setB l B' = st.add l B' := by
 simp only [St.setB, St.add, hSet, if_true]
theorem Sim.row (S : Sim Γ st a as β w) (l e sz fz cap : Nat) (xs : List (List Data)) (cur : Array Value) (hm : st.noMark l) (hsz : 0 < sz) (hfz : fz ≤ xs.length) (hx : ∀ x ∈ xs, x.length = sz)
 (hc : xs.length ≤ cap) (hc2 : cap ≤ maxLen) (hcs : cur.size = cap * sz)
 (hd : ∀ (j : Nat) (d : Data), xs.flatten[j]? = some d → d.one = true ∧ ∃ v, cur[j]? = some v ∧ RV w (Im Γ β st.h w) d v) :
 Sim Γ (st.add l (.arr e sz xs fz)) a as (upd β l (.blk w.heap.size cap sz)) (w.alloc (.cells cur e)) := by
 refine S.alloc l _ _ cap sz hm ⟨hsz, hfz, hx, .inr ⟨w.heap.size, cap, cur, upd_same _ _ _, S.below.size, World.alloc_heap_new w _, hc, hc2, hcs, fun j d hj => ?_⟩⟩
 obtain ⟨h1, v, hv, hr⟩ := hd j d hj
 exact ⟨h1, v, hv, RV.keeps (Im.alloc S l _ _ cap sz) d v hr⟩
theorem append_nil_src {P : Program} {w : World} {t e ty : TypeId} {i : TypeInfo} (ht : P.underlying t = some (.slice e)) (hi : P.info? e = some i) (base : Option Addr) (n cap c : Nat) (h : n ≤ cap) :
 (Builtin.append_ #[t, t] ty #[.slice base n cap, .slice none 0 c]).run P w = .ok (.slice base n cap) w := by
 cases base <;> simp [Builtin.append_, run_underlying ht, sizeOf, typeInfo, hi, Builtin.lenOf, Builtin.firstCells, h, storeCells]
theorem getElem?_take_lt {α : Type} {xs : List α} {n j : Nat} {d : α} (h : (xs.take n)[j]? = some d) : xs[j]? = some d ∧ j < n := by
 rw [List.getElem?_take] at h
 split at h
 ·exact ⟨h, by assumption⟩
 ·cases h
theorem RVD.row {w : World} {I : Cset} {β : Nat → Pl} {l b cap sz n : Nat} (hβ : β l = .blk b cap sz) (h : n ≤ cap) : RVD w I β (.sl l 0 n) (.slice (some ⟨b, 0, none⟩) n cap) := by
 simp only [RVD]
 exact .inr ⟨b, cap, sz, some ⟨b, 0, none⟩, hβ, by omega, by simp, .inl (by simp)⟩
theorem RVD.nilrow {w : World} {I : Cset} {β : Nat → Pl} {l : Nat} (hβ : β l = .nil) (a : Option Addr) : RVD w I β (.sl l 0 0) (.slice a 0 0) := by
 simp only [RVD]
 exact .inl ⟨hβ, trivial, trivial, a, rfl⟩
theorem Sim.append (S : Sim Γ st a as β w) {l l' e sz fz n t ty bytes : Nat} {xs ys : List (List Data)} (hf : find st.h l = some (.arr e sz xs fz)) (hn : n ≤ xs.length) (hz : fz ≤ n)
 (hm : st.noMark l) (hm' : st.noMark l') {v x : Value} (hv : RVD w (Im Γ β st.h w) β (.sl l 0 n) v) (hs : Src w (Im Γ β st.h w) sz ys x)
 {i : TypeInfo} {z : Value} (ht : Γ.P.underlying t = some (.slice e)) (hi : Γ.P.info? e = some i) (hiz : i.zero = some z) (hisz : i.size = sz) (hby : i.bytes = bytes) (hzs : z.cells.size = sz)
 (h63 : n + ys.length ≤ maxLen) (hbytes : (n + ys.length) * bytes ≤ 140737488355328) :
 ∃ v' w' β', (Builtin.append_ #[t, t] ty #[v, x]).run Γ.P w = .ok v' w' ∧ Sim Γ ((st.erase l).add l' (.arr e sz (xs.take n ++ ys) fz)) a as β' w' ∧
  RVD w' (Im Γ β' ((st.erase l).add l' (.arr e sz (xs.take n ++ ys) fz)).h w') β' (.sl l' 0 (n + ys.length)) v' := by
 subst hisz
 subst hby
 have hB := S.heap l _ hf
 obtain ⟨p1, p2, p3, p4⟩ := hB
 have hlen : (xs.take n).length = n := by rw [List.length_take]; omega
 have htk : ∀ x ∈ xs.take n, x.length = i.size := fun x hx => p3 x (List.mem_of_mem_take hx)
 have hall : ∀ x ∈ xs.take n ++ ys, x.length = i.size := fun x hx => by
  rcases List.mem_append.1 hx with h | h
  ·exact htk x h
  ·exact hs.1 x h
 have h63' : ((n + ys.length : Nat) : Int) ≤ 9223372036854775807 := by simp only [maxLen] at h63; omega
 have R := S.rename hf hm hm'
 have hkeep : Γ.toEnv.P = Γ.P := rfl
 simp only [RVD, Nat.zero_mul, Nat.zero_add, Nat.sub_zero] at hv
 rcases hv with ⟨hb, _, rfl, na, rfl⟩ | ⟨b, cap, sz', ad, hb, hcap, rfl, had⟩
 ·-- a nil slice
  have hx0 : xs = [] := by
   rcases p4 with h | ⟨b, cap, cur, h, _⟩
   ·exact h.2
   ·rw [hb] at h; cases h
  subst hx0
  simp only [List.take_nil, List.nil_append, Nat.zero_add] at h63 hbytes hall R ⊢
  have hz0 : fz = 0 := by omega
  subst hz0
  rcases hs.2 with ⟨c, rfl, rfl⟩ | ⟨ad, m, c, rfl, rfl, news, hl, hcell, hr⟩
  ·refine ⟨_, w, _, append_nil_src ht hi na 0 0 c (Nat.le_refl _), R.1, ?_⟩
   exact RVD.nilrow ((upd_same _ _ _).trans hb) na
  ·by_cases hm0 : ys.length = 0
   ·have hys : ys = [] := List.eq_nil_of_length_eq_zero hm0
    subst hys
    refine ⟨.slice na 0 0, w, _, ?_, R.1, ?_⟩
    ·cases na <;> simp [Builtin.append_, run_underlying ht, sizeOf, typeInfo, hi, Builtin.lenOf, Builtin.firstCells, loadCells, loadCellsFrom, storeCells]
    ·exact RVD.nilrow ((upd_same _ _ _).trans hb) na
   ·have hrun : (Builtin.append_ #[t, t] ty #[.slice na 0 0, .slice (some ad) ys.length c]).run Γ.P w =
     .ok (.slice (some ⟨w.heap.size, 0, none⟩) ys.length (grownCap w ys.length 0 e)) (w.drew.alloc (.cells (news.toArray ++ Builtin.zeroCells z.cells (grownCap w ys.length 0 e - ys.length)) e)) := by
     cases na with
     | none => exact run_append_nil (P := Γ.P) w t ty e i z ht hi hiz ad ys.length c news hl hcell (by omega) (by omega) (by omega)
     | some na =>
       have := run_append_grow (P := Γ.P) w t ty e i z ht hi hiz na 0 0 [] (by simp) (by simp) ad ys.length c news hl hcell (by omega) (by omega) (growslice_fits (by omega) (by simpa using hbytes))
       simpa using this
    have S1 := (S.drop l hm).drew
    have K1 : Keeps w (Im Γ β st.h w) w.drew (Im Γ β (st.erase l).h w.drew) := Im.drop Γ st β w l
    refine ⟨_, _, _, hrun, S1.row l' e i.size 0 (grownCap w ys.length 0 e) ys _ ⟨?_, ?_⟩ p1 (Nat.zero_le _) hs.1 (grownCap_ge _ _ _ _) (grownCap_le_maxLen _ _ _ _ (by simpa using h63)) ?_ ?_, ?_⟩
    ·exact hm'.1
    ·exact noMark_erase l' l _ hm'.2
    ·simp only [Array.size_append, List.size_toArray, size_zeroCells, hzs, hl, ← Nat.add_mul]
     congr 1
     have := grownCap_ge w ys.length 0 e
     omega
    ·intro j d hj
     obtain ⟨h1, u, hu, hru⟩ := hr j d hj
     refine ⟨h1, u, ?_, RV.keeps K1 d u hru⟩
     have hlt := (List.getElem?_eq_some_iff.1 hu).1
     rw [Array.getElem?_append_left (by simpa using hlt)]
     simpa using hu
    ·exact RVD.row (upd_same _ _ _) (grownCap_ge w ys.length 0 e)
 ·obtain ⟨cap', cur, hb', hge, hh, hc1, hc2, hcs, hcells⟩ : ∃ cap' cur, β l = .blk b cap' i.size ∧ Γ.w0.heap.size ≤ b ∧ w.heap[b]? = some (.cells cur e (0, 0)) ∧ xs.length ≤ cap' ∧ cap' ≤ maxLen ∧ cur.size = cap' * i.size ∧
   ∀ (j : Nat) (d : Data), xs.flatten[j]? = some d → d.one = true ∧ ∃ v, cur[j]? = some v ∧ RV w (Im Γ β st.h w) d v := by
   rcases p4 with h | ⟨b2, cap2, cur, h, rest⟩
   ·rw [hb] at h; cases h.1
   ·rw [hb] at h; injection h with e1 e2 e3; subst e1 e2
    exact ⟨_, cur, e3 ▸ hb, rest⟩
  rw [hb] at hb'; injection hb' with _ e2 e3; subst e2 e3
  have had' : ad = some ⟨b, 0, none⟩ := by
   rcases had with h | h
   ·exact h
   ·exact absurd h.2 (by omega)
  subst had'
  have S2 := R.1.take (l := l') (e := e) (sz := i.size) n (by simp only [St.add, find_cons, if_true]) hn hz
  rw [setB_add] at S2
  have hf2 : find ((st.erase l).add l' (.arr e i.size (xs.take n) fz)).h l' = some (.arr e i.size (xs.take n) fz) := by simp only [St.add, find_cons, if_true]
  have hβ2 : upd β l' (β l) l' = .blk b cap i.size := (upd_same _ _ _).trans hb
  have holds : ∀ (j : Nat) (d : Data), (xs.take n).flatten[j]? = some d → d.one = true ∧ ∃ v, (cur.toList.take (n * i.size))[j]? = some v ∧ RV w (Im Γ β st.h w) d v := by
   intro j d hj
   rw [flatten_take n p3] at hj
   obtain ⟨hj1, hj2⟩ := getElem?_take_lt hj
   obtain ⟨h1, v, hv, hr⟩ := hcells j d hj1
   refine ⟨h1, v, ?_, hr⟩
   rw [List.getElem?_take, if_pos hj2]
   simpa using hv
  have hfit : n * i.size ≤ cur.size := by rw [hcs]; exact Nat.mul_le_mul_right _ (by omega)
  rcases hs.2 with ⟨c, rfl, rfl⟩ | ⟨ad, m, c, rfl, rfl, news, hl, hcell, hr⟩
  ·refine ⟨_, w, _, append_nil_src ht hi _ n cap c hcap, by simpa using S2, ?_⟩
   exact RVD.row hβ2 hcap
  ·have hone := news_one hs.1 hl hr
   by_cases hroom : n + ys.length ≤ cap
   ·have hfit2 : n * i.size + news.length ≤ cur.size := by rw [hl, hcs, ← Nat.add_mul]; exact Nat.mul_le_mul_right _ hroom
    have hrun := run_append_room (P := Γ.P) w t ty e i ht hi b n cap cur hh ad ys.length c news hl hcell hone hroom hfit2
    have S3 : Sim Γ (((st.erase l).add l' (.arr e i.size (xs.take n) fz)).setB l' (.arr e i.size (xs.take n ++ ys) fz)) a as (upd β l' (β l))
     (w.setRow b (cur.toList.take (n * i.size) ++ news ++ cur.toList.drop (n * i.size + news.length)).toArray) := by
     refine S2.turn hf2 ?_ (by simp [World.setRow]) ?_ (fun _ _ h => h) ?_ ?_
     ·have h0 := S.below
      refine ⟨h0.os, h0.tape, h0.output, by simpa [World.setRow] using h0.size, fun k hk => ?_⟩
      rw [setRow_other w b k _ (by omega)]
      exact h0.block k hk
     ·intro b2 o2 hi2
      by_cases eb : b2 = b
      ·subst eb
       have hlt : o2 < n * i.size := by
        rcases hi2 with h | ⟨_, _, h3⟩
        ·have := S.hJ b2 o2 h; omega
        ·rcases Nat.lt_or_ge o2 (n * i.size) with g | g
         ·exact g
         ·exact absurd ⟨_, _, hβ2, Nat.le_trans (Nat.mul_le_mul_right _ hz) g⟩ (h3 l' _ hf2)
       have hlt2 : o2 < cur.size := by omega
       rw [cell_setRow_same w b2 o2 cur _ e (0, 0) hh]
       simp only [World.cell?, hh, Option.isSome_none, Bool.false_eq_true, if_false]
       rw [List.getElem?_toArray, List.append_assoc, List.getElem?_append_left (by rw [List.length_take]; simp; omega), List.getElem?_take, if_pos hlt]
       simp
      ·exact cell_of_heap (setRow_other w b b2 _ eb) o2
     ·intro k B2 b2 c2 sz2 hk hk2 hb2
      refine setRow_other w b b2 _ (fun eb => hk ?_)
      subst eb
      exact S2.apart k l' B2 _ b2 c2 cap sz2 i.size hk2 hf2 hb2 hβ2
     ·intro K
      refine ⟨p1, by rw [List.length_append]; omega, hall, .inr ⟨b, cap, _, hβ2, hge, setRow_heap w b cur _ e _ hh, by rw [List.length_append, hlen]; exact hroom, hc2, ?_, ?_⟩⟩
      ·simp only [List.size_toArray, List.length_append, List.length_take, List.length_drop, Array.length_toList]
       omega
      ·intro j d hj
       have := cells_append (w := w) (I := Im Γ β st.h w) (n := n) (tail := cur.toList.drop (n * i.size + news.length)) htk (by rw [List.length_take, hlen]; simp; omega) holds hl hr j d hj
       obtain ⟨h1, v, hv, hrv⟩ := this
       refine ⟨h1, v, by rw [List.getElem?_toArray]; exact hv, ?_⟩
       refine RV.keeps K d v (RV.keeps ?_ d v hrv)
       have K1 := R.2
       intro b2 o2 h2
       obtain ⟨q1, q2⟩ := K1 b2 o2 h2
       refine ⟨?_, q2⟩
       rcases q1 with q | ⟨q3, q4, q5⟩
       ·exact .inl q
       ·refine .inr ⟨q3, q4, fun k B hkB hmu => ?_⟩
        simp only [St.add, find_cons] at hkB q5
        by_cases ek : l' = k
        ·subst ek
         rw [if_pos rfl] at hkB; cases hkB
         exact q5 l' (.arr e i.size xs fz) (by rw [if_pos rfl]) hmu
        ·rw [if_neg ek] at hkB
         exact q5 k B (by rw [if_neg ek]; exact hkB) hmu
    rw [setB_add] at S3
    refine ⟨_, _, _, hrun, S3, ?_⟩
    exact RVD.row hβ2 hroom
   ·have hholds : ∀ j u, (cur.toList.take (n * i.size))[j]? = some u → w.cell? ((⟨b, 0, none⟩ : Addr).add j) = some u := by
     intro j u hj
     obtain ⟨hj1, hj2⟩ := getElem?_take_lt hj
     rw [Addr.add_lit]
     simp only [World.cell?, hh, Option.isSome_none, Bool.false_eq_true, if_false, Nat.zero_add]
     simpa using hj1
    have hrun := run_append_grow (P := Γ.P) w t ty e i z ht hi hiz ⟨b, 0, none⟩ n cap (cur.toList.take (n * i.size)) (by rw [List.length_take]; simp; omega) hholds ad ys.length c news hl hcell (by omega) h63' (growslice_fits (by omega) hbytes)
    have S1 := (S.drop l hm).drew
    have K1 : Keeps w (Im Γ β st.h w) w.drew (Im Γ β (st.erase l).h w.drew) := Im.drop Γ st β w l
    refine ⟨_, _, _, hrun, S1.row l' e i.size fz (grownCap w (n + ys.length) cap e) (xs.take n ++ ys) _ ⟨?_, ?_⟩ p1 (by rw [List.length_append]; omega) hall
     (by rw [List.length_append, hlen]; exact grownCap_ge _ _ _ _) (grownCap_le_maxLen _ _ _ _ h63) ?_ ?_, ?_⟩
    ·exact hm'.1
    ·exact noMark_erase l' l _ hm'.2
    ·have := grownCap_ge w (n + ys.length) cap e
     have e1 : (cur.toList.take (n * i.size)).length = n * i.size := by rw [List.length_take]; simp; omega
     simp only [Array.size_append, List.size_toArray, size_zeroCells, hzs, hl, e1, ← Nat.add_mul]
     congr 1
     omega
    ·intro j d hj
     have := cells_append (w := w) (I := Im Γ β st.h w) (n := n) (tail := (Builtin.zeroCells z.cells (grownCap w (n + ys.length) cap e - (n + ys.length))).toList) htk (by rw [List.length_take, hlen]; simp; omega) holds hl hr j d hj
     obtain ⟨h1, v, hv, hrv⟩ := this
     refine ⟨h1, v, ?_, RV.keeps K1 d v hrv⟩
     rw [← hv, ← Array.getElem?_toList]
     simp
    ·exact RVD.row (upd_same _ _ _) (grownCap_ge w (n + ys.length) cap e)
end
end Go.Proofs.YtpajpkbipagjpaaGreatDoor.Vm
namespace Go.Proofs.YtpajpkbipagjpaaGreatDoor.Vm
open Go Go.RowKit
inductive Ty where
 | bool
 | int (k : IntKind)
 | str
 | slice (e : TypeId)
 | arr (n : Nat) (e : TypeId)
 | struct (fs : List (Nat × TypeId))
 | ptr
 | func
 | iface
 | other
 deriving DecidableEq
def kindT (P : Program) (t : TypeId) : Ty :=
 match P.underlying t with
 | some .bool => .bool
 | some (.int k) => .int k
 | some .string => .str
 | some (.slice e) => .slice e
 | some (.array n e) => .arr n e
 | some (.struct fs) => .struct (fs.toList.map fun f => (f.offset, f.type))
 | some (.pointer _) => .ptr
 | some (.func ..) => .func
 | some (.interface _) => .iface
 | _ => .other
def Ty.agg : Ty → Bool
 | .struct _ | .arr _ _ => true
 | _ => false
def szT (P : Program) (t : TypeId) : Nat := match P.info? t with | some i => i.size | none => 0
def bytesT (P : Program) (t : TypeId) : Nat := match P.info? t with | some i => i.bytes | none => 0
section
variable {P : Program} {t : TypeId}
theorem underlying_bool (h : kindT P t = .bool) : P.underlying t = some .bool := by
 unfold kindT at h; split at h <;> first | assumption | cases h
theorem underlying_int {k : IntKind} (h : kindT P t = .int k) : P.underlying t = some (.int k) := by
 unfold kindT at h; split at h <;> first | (cases h; assumption) | cases h
theorem underlying_str (h : kindT P t = .str) : P.underlying t = some .string := by
 unfold kindT at h; split at h <;> first | assumption | cases h
theorem underlying_slice {e : TypeId} (h : kindT P t = .slice e) : P.underlying t = some (.slice e) := by
 unfold kindT at h; split at h <;> first | (cases h; assumption) | cases h
theorem underlying_arr {n : Nat} {e : TypeId} (h : kindT P t = .arr n e) : P.underlying t = some (.array n e) := by
 unfold kindT at h; split at h <;> first | (cases h; assumption) | cases h
theorem underlying_struct {fs : List (Nat × TypeId)} (h : kindT P t = .struct fs) : ∃ gs, P.underlying t = some (.struct gs) ∧ gs.toList.map (fun f => (f.offset, f.type)) = fs := by
 unfold kindT at h; split at h <;> first | (cases h; exact ⟨_, by assumption, rfl⟩) | cases h
theorem underlying_some (h : kindT P t ≠ .other) : ∃ d, P.underlying t = some d := by
 unfold kindT at h; split at h <;> first | exact ⟨_, by assumption⟩ | exact absurd rfl h
theorem info_of_underlying {d : TypeDesc} (h : P.underlying t = some d) : ∃ i, P.info? t = some i ∧ i.size = szT P t ∧ i.bytes = bytesT P t := by
 unfold Program.underlying at h
 cases hi : P.info? t with
 | none => rw [hi] at h; cases h
 | some i => exact ⟨i, rfl, by simp only [szT, hi], by simp only [bytesT, hi]⟩
theorem run_sizeOf (w : World) (h : kindT P t ≠ .other) : (sizeOf t).run P w = .ok (szT P t) w := by
 obtain ⟨d, hd⟩ := underlying_some h
 obtain ⟨i, hi, hs, _⟩ := info_of_underlying hd
 simp [sizeOf, typeInfo, hi, hs]
theorem run_isAgg (w : World) (h : kindT P t ≠ .other) : (isAgg t).run P w = .ok (kindT P t).agg w := by
 obtain ⟨d, hd⟩ := underlying_some h
 have hk : kindT P t = kindT P t := rfl
 simp only [isAgg, Sem.run_bind, run_underlying hd, Result.andThen_ok]
 cases d <;> simp [kindT, hd, Ty.agg]
end
def constD : Value → D
 | .bool b => .dat (.bool b)
 | .int k n => .dat (.int k n)
 | .string s => .dat (.str s.data.toList)
 | .pointer none => .dat .nilp
 | .slice none 0 0 => .nilsl
 | .nilFunc => .dat .nilf
 | .nilIface => .dat .nili
 | .func f xs ys => if xs.isEmpty && ys.isEmpty then .dat (.fn f) else .junk
 | _ => .junk
def constA : Value → D
 | .agg cs => .agg (cs.toList.map constD)
 | v => constD v
theorem constD_ok {w : World} {I : Cset} {β : Nat → Pl} (v : Value) : RVD w I β (constD v) v := by
 cases v with
 | bool b => simp only [constD, RVD, RV]
 | int k n => simp only [constD, RVD, RV]
 | string s => simp only [constD, RVD, RV]
 | pointer a => cases a <;> simp only [constD, RVD, RV]
 | slice a n c =>
   cases a with
   | some a => simp only [constD, RVD]
   | none => cases n with
     | succ n => simp only [constD, RVD]
     | zero => cases c with
       | succ c => simp only [constD, RVD]
       | zero => simp only [constD, RVD]; exact ⟨none, rfl⟩
 | nilFunc => simp only [constD, RVD, RV]
 | nilIface => simp only [constD, RVD, RV]
 | func f xs ys =>
   simp only [constD]
   split
   ·rename_i h
    simp only [Bool.and_eq_true, Array.isEmpty_iff] at h
    simp only [RVD, RV, h.1, h.2]
   ·simp only [RVD]
 | _ => simp only [constD, RVD]
theorem constA_ok {w : World} {I : Cset} {β : Nat → Pl} (v : Value) : RVD w I β (constA v) v := by
 cases v with
 | agg cs =>
   simp only [constA, RVD]
   refine ⟨cs, rfl, RVDs.mk (by simp) fun j d v hj hv => ?_⟩
   rw [List.getElem?_map, hv] at hj
   simp at hj; subst hj
   exact constD_ok v
 | _ => simp only [constA]; exact constD_ok _
def evO (E : Env) (st : St) : Operand → D
 | .tmp t => look st.c.t t
 | .const v => constA v
 | .global g => match E.G g with | some cs => .dat (.ptr cs) | none => .junk
 | .func f => .dat (.fn (.func f))
section
variable {Γ : Ctx} {st : St} {a : Act} {as : List Act} {β : Nat → Pl} {w : World}
theorem Sim.eval (S : Sim Γ st a as β w) (x : Operand) : RVD w (Im Γ β st.h w) β (evO Γ.toEnv st x) (a.eval x) := by
 cases x with
 | tmp t => exact S.get t
 | const v => exact constA_ok v
 | global g =>
   simp only [evO]
   cases hg : Γ.toEnv.G g with
   | none => simp only [RVD]
   | some cs => simp only [RVD, RV]; exact ⟨g, 0, rfl, S.glob g cs hg⟩
 | func f => simp only [evO, RVD, RV]; rfl
end
inductive Res where
 | val (d : D)
 | st (d : D) (s : St)
 | req (p : Prop) (r : Res)
 | stop
def Res.ok (st : St) (K : D → St → Prop) : Res → Prop
 | .val d => K d st
 | .st d s => K d s
 | .req p r => p ∧ r.ok st K
 | .stop => False
def Good (Γ : Ctx) (a : Act) (as : List Act) (s : Sem Value) (w : World) (K : D → St → Prop) : Prop :=
 ∃ v w' β' d st', s.run Γ.P w = .ok v w' ∧ Sim Γ st' a as β' w' ∧ RVD w' (Im Γ β' st'.h w') β' d v ∧ K d st'
section
variable {Γ : Ctx} {st : St} {a : Act} {as : List Act} {β : Nat → Pl} {w : World} {K : D → St → Prop}
theorem Good.val (S : Sim Γ st a as β w) {s : Sem Value} {v : Value} {d : D} (h : s.run Γ.P w = .ok v w) (hd : RVD w (Im Γ β st.h w) β d v) (hk : K d st) : Good Γ a as s w K :=
 ⟨v, w, β, d, st, h, S, hd, hk⟩
def cellsD : D → Option (List D)
 | .dat (.agg cs) => some (cs.map .dat)
 | .agg cs => some cs
 | .junk => none
 | .tup _ => none
 | d => some [d]
theorem RVDs_map_dat {w : World} {I : Cset} {β : Nat → Pl} : ∀ {cs : List Data} {vs : List Value}, RVs w I cs vs → RVDs w I β (cs.map .dat) vs
 | [], vs, h => h
 | c :: cs, vs, h => by
   simp only [RVs] at h
   obtain ⟨v, r, rfl, h1, h2⟩ := h
   simp only [List.map_cons, RVDs]
   exact ⟨v, r, rfl, h1, RVDs_map_dat h2⟩
theorem cells_of_one {v : Value} (h : v.oneCell' = true) : v.cells = #[v] := by
 cases v <;> first | rfl | simp [Value.oneCell'] at h
theorem cellsD_ok {w : World} {I : Cset} {β : Nat → Pl} {d : D} {v : Value} {cs : List D} (hd : RVD w I β d v) (h : cellsD d = some cs) : RVDs w I β cs v.cells.toList := by
 have one : ∀ {d : D} {v : Value}, RVD w I β d v → v.oneCell' = true → RVDs w I β [d] v.cells.toList := by
  intro d v hd h1
  rw [cells_of_one h1]
  simp only [RVDs]
  exact ⟨v, [], rfl, hd, rfl⟩
 cases d with
 | dat e =>
   cases e with
   | agg ds =>
     simp only [cellsD, Option.some.injEq] at h; subst h
     simp only [RVD, RV] at hd
     obtain ⟨vs, rfl, hs⟩ := hd
     exact RVDs_map_dat hs
   | _ =>
     simp only [cellsD, Option.some.injEq] at h; subst h
     exact one hd (RV.one (by simpa only [RVD] using hd) rfl)
 | agg ds =>
   simp only [cellsD, Option.some.injEq] at h; subst h
   simp only [RVD] at hd
   obtain ⟨vs, rfl, hs⟩ := hd
   exact hs
 | junk => simp [cellsD] at h
 | tup _ => simp [cellsD] at h
 | nilsl =>
   simp only [cellsD, Option.some.injEq] at h; subst h
   refine one hd ?_
   simp only [RVD] at hd; obtain ⟨a, rfl⟩ := hd; rfl
 | ref l o =>
   simp only [cellsD, Option.some.injEq] at h; subst h
   refine one hd ?_
   simp only [RVD] at hd; obtain ⟨b, c, sz, _, rfl⟩ := hd; rfl
 | sl l o n =>
   simp only [cellsD, Option.some.injEq] at h; subst h
   refine one hd ?_
   simp only [RVD] at hd
   rcases hd with ⟨_, _, _, a, rfl⟩ | ⟨b, c, sz, a, _, _, rfl, _⟩ <;> rfl
 | eref l i o =>
   simp only [cellsD, Option.some.injEq] at h; subst h
   refine one hd ?_
   simp only [RVD] at hd; obtain ⟨b, c, sz, _, rfl⟩ := hd; rfl
 | fn f xs ys =>
   simp only [cellsD, Option.some.injEq] at h; subst h
   refine one hd ?_
   simp only [RVD] at hd; obtain ⟨vs, us, rfl, _⟩ := hd; rfl
 | yld l =>
   simp only [cellsD, Option.some.injEq] at h; subst h
   refine one hd ?_
   simp only [RVD] at hd; obtain ⟨b, c, sz, _, rfl⟩ := hd; rfl
def zeroT (P : Program) (t : TypeId) : Option (List D) := (P.info? t).bind fun i => i.zero.map fun v => v.cells.toList.map constD
theorem Sim.boxed (S : Sim Γ st a as β w) (site : Nat) (hm : st.noMark site) {cs : List D} {vs : Array Value} (h : RVDs w (Im Γ β st.h w) β cs vs.toList) (e : TypeId) :
 Sim Γ (st.add site (.cells (D.erases site cs) false)) a as (upd β site (.blk w.heap.size 0 0)) (w.alloc (.cells vs e)) :=
 S.alloc site _ _ 0 0 hm ⟨w.heap.size, 0, 0, vs, e, upd_same _ _ _, S.below.size, World.alloc_heap_new w _, RVDs.erase upd_ne _ _ (RVDs.keeps (Im.alloc S site _ _ 0 0) _ _ h)⟩
def evBox (E : Env) (st : St) (site : Nat) (x : D) : Res :=
 match cellsD x with
 | some cs => .req (st.noMark site) (.st (.ref site 0) (st.add site (.cells (D.erases site cs) false)))
 | none => .stop
theorem ref_ok {w : World} {I : Cset} {β : Nat → Pl} {l b c sz o : Nat} (h : β l = .blk b c sz) : RVD w I β (.ref l o) (.pointer (some ⟨b, o, none⟩)) := by
 simp only [RVD]; exact ⟨b, c, sz, h, rfl⟩
theorem good_box (S : Sim Γ st a as β w) (site : Nat) (e : TypeId) {x : D} {v : Value} (hx : RVD w (Im Γ β st.h w) β x v) (h : (evBox Γ.toEnv st site x).ok st K) : Good Γ a as (Instr.box e v) w K := by
 unfold evBox at h
 split at h
 ·rename_i cs hc
  obtain ⟨hm, hk⟩ := h
  refine ⟨_, _, _, _, _, ?_, S.boxed site hm (cellsD_ok hx hc) e, ref_ok (upd_same _ _ _), hk⟩
  simp [Instr.box, newVar, newRow]
 ·exact h.elim
def evAlloc (E : Env) (st : St) (site : Nat) (e : TypeId) : Res :=
 match zeroT E.P e with
 | some cs => .req (st.noMark site) (.st (.ref site 0) (st.add site (.cells (D.erases site cs) false)))
 | none => .stop
theorem constDs_ok {w : World} {I : Cset} {β : Nat → Pl} : ∀ (vs : List Value), RVDs w I β (vs.map constD) vs
 | [] => rfl
 | v :: vs => by simp only [List.map_cons, RVDs]; exact ⟨v, vs, rfl, constD_ok v, constDs_ok vs⟩
theorem good_alloc (S : Sim Γ st a as β w) (site : Nat) (e : TypeId) (h : (evAlloc Γ.toEnv st site e).ok st K) : Good Γ a as (Instr.alloc e true (.tuple #[])) w K := by
 unfold evAlloc at h
 split at h
 ·rename_i cs hc
  obtain ⟨hm, hk⟩ := h
  unfold zeroT at hc
  obtain ⟨i, hi, hz⟩ := Option.bind_eq_some_iff.1 hc
  obtain ⟨z, hz1, rfl⟩ := Option.map_eq_some_iff.1 hz
  refine ⟨_, _, _, _, _, ?_, S.boxed site hm (constDs_ok z.cells.toList) e, ref_ok (upd_same _ _ _), hk⟩
  simp [Instr.alloc, zeroValue, typeInfo, hi, hz1, newVar, newRow]
 ·exact h.elim
def fieldT (P : Program) (t : TypeId) (f : Nat) : Option (Nat × TypeId) :=
 match kindT P t with
 | .struct fs => fs[f]?
 | _ => none
theorem field_of {P : Program} {t : TypeId} {f : Nat} {off : Nat} {ft : TypeId} (h : fieldT P t f = some (off, ft)) : ∃ gs g, P.underlying t = some (.struct gs) ∧ gs[f]? = some g ∧ g.offset = off ∧ g.type = ft := by
 unfold fieldT at h
 split at h
 ·rename_i fs hk
  obtain ⟨gs, hu, hm⟩ := underlying_struct hk
  rw [← hm, List.getElem?_map] at h
  obtain ⟨g, hg, he⟩ := Option.map_eq_some_iff.1 h
  simp only [Prod.mk.injEq] at he
  exact ⟨gs, g, hu, by simpa using hg, he.1, he.2⟩
 ·cases h
def partD (P : Program) (t : TypeId) (cs : List D) (off : Nat) : Option D :=
 match kindT P t with
 | .other => none
 | k => if k.agg = true then (if off + szT P t ≤ cs.length then some (.agg ((cs.drop off).take (szT P t))) else none) else cs[off]?
theorem partD_ok {P : Program} {w : World} {I : Cset} {β : Nat → Pl} {t : TypeId} {cs : List D} {vs : Array Value} {off : Nat} {d : D} (hc : RVDs w I β cs vs.toList) (h : partD P t cs off = some d) :
 ∃ v, (part t vs off).run P w = .ok v w ∧ RVD w I β d v := by
 have hlen := hc.length
 have hne : kindT P t ≠ .other := fun e => by simp [partD, e] at h
 have h' : (if (kindT P t).agg = true then (if off + szT P t ≤ cs.length then some (D.agg ((cs.drop off).take (szT P t))) else none) else cs[off]?) = some d := by
  unfold partD at h
  split at h
  ·rename_i e; exact absurd e hne
  ·exact h
 simp only [part, Sem.run_bind, run_isAgg w hne, Result.andThen_ok]
 by_cases ha : (kindT P t).agg = true
 ·rw [if_pos ha] at h'
  split at h'
  ·rename_i hle
   simp only [Option.some.injEq] at h'; subst h'
   simp only [ha, if_true, Sem.run_bind, run_sizeOf w hne, Result.andThen_ok, Sem.run_pure]
   refine ⟨_, rfl, ?_⟩
   simp only [RVD]
   refine ⟨_, rfl, RVDs.mk ?_ fun j d v hj hv => ?_⟩
   ·simp at hlen ⊢; omega
   ·obtain ⟨hj1, hj2⟩ := getElem?_take_lt hj
    rw [List.getElem?_drop] at hj1
    obtain ⟨v', hv', hr⟩ := hc.at _ _ hj1
    have : v = v' := by
     have e : (vs.extract off (off + szT P t)).toList[j]? = vs.toList[off + j]? := by
      simp only [Array.getElem?_toList]
      rw [Array.getElem?_extract, if_pos (by simp at hlen; omega)]
     rw [e, hv'] at hv
     exact (Option.some.inj hv).symm
    subst this
    exact hr
  ·cases h'
 ·rw [if_neg ha] at h'
  obtain ⟨v, hv, hr⟩ := hc.at off d h'
  refine ⟨v, ?_, hr⟩
  have hv' : vs[off]? = some v := by simpa using hv
  simp [ha, hv']
def evField (E : Env) (t : TypeId) (x : D) (f : Nat) : Res :=
 match fieldT E.P t f with
 | some (off, ft) =>
   match x with
   | .agg cs => match partD E.P ft cs off with | some d => .val d | none => .stop
   | .dat (.agg cs) => match partD E.P ft (cs.map .dat) off with | some d => .val d | none => .stop
   | _ => .stop
 | none => .stop
theorem good_field (S : Sim Γ st a as β w) (t : TypeId) (f : Nat) {x : D} {v : Value} (hx : RVD w (Im Γ β st.h w) β x v) (h : (evField Γ.toEnv t x f).ok st K) : Good Γ a as (Instr.field t v f) w K := by
 unfold evField at h
 split at h
 ·rename_i off ft hf
  obtain ⟨gs, g, hu, hg, rfl, rfl⟩ := field_of hf
  have key : ∀ (cs : List D) (vs : Array Value) (d : D), v = .agg vs → RVDs w (Im Γ β st.h w) β cs vs.toList → partD Γ.toEnv.P g.type cs g.offset = some d → K d st → Good Γ a as (Instr.field t v f) w K := by
   rintro cs vs d rfl hr hp hk
   obtain ⟨u, hrun, hd⟩ := partD_ok hr hp
   exact Good.val S (by simp [Instr.field, run_underlying hu, hg, asAgg, hrun]) hd hk
  split at h
  ·rename_i cs
   split at h
   ·rename_i d hp
    simp only [RVD] at hx
    obtain ⟨vs, hv, hr⟩ := hx
    exact key _ vs d hv hr hp h
   ·exact h.elim
  ·rename_i cs
   split at h
   ·rename_i d hp
    simp only [RVD, RV] at hx
    obtain ⟨vs, hv, hr⟩ := hx
    exact key _ vs d hv (RVDs_map_dat hr) hp h
   ·exact h.elim
  ·exact h.elim
 ·exact h.elim
def evFieldAddr (E : Env) (t : TypeId) (x : D) (f : Nat) : Res :=
 match fieldT E.P t f with
 | some (off, ft) =>
   if szT E.P ft = 0 then .stop else
   match kindT E.P ft with
   | .other => .stop
   | _ =>
     match x with
     | .ref l o => .val (.ref l (o + off))
     | .eref l i o => .val (.eref l i (o + off))
     | .dat (.ptr cs) => .req (off + szT E.P ft ≤ cs.length) (.val (.dat (.ptr ((cs.drop off).take (szT E.P ft)))))
     | _ => .stop
 | none => .stop
theorem RC.sub {w : World} {I : Cset} {cs : List Data} {b o : Nat} (h : RC w I cs b o) (off n : Nat) : RC w I ((cs.drop off).take n) b (o + off) := by
 refine RC.mk fun j d hj => ?_
 obtain ⟨hj1, hj2⟩ := getElem?_take_lt hj
 rw [List.getElem?_drop] at hj1
 have := h.at _ _ hj1
 rwa [← Nat.add_assoc] at this
theorem good_fieldAddr (S : Sim Γ st a as β w) (t : TypeId) (f : Nat) {x : D} {v : Value} (hx : RVD w (Im Γ β st.h w) β x v) (h : (evFieldAddr Γ.toEnv t x f).ok st K) : Good Γ a as (Instr.fieldAt t v f) w K := by
 unfold evFieldAddr at h
 split at h
 ·rename_i off ft hf
  obtain ⟨gs, g, hu, hg, rfl, rfl⟩ := field_of hf
  split at h
  ·exact h.elim
  ·rename_i hz
   have hz : szT Γ.P g.type ≠ 0 := hz
   split at h
   ·exact h.elim
   ·rename_i hne
    have hne : kindT Γ.P g.type ≠ .other := fun e => hne e
    have key : ∀ (b o : Nat) (d : D), v = .pointer (some ⟨b, o, none⟩) → RVD w (Im Γ β st.h w) β d (.pointer (some ⟨b, o + g.offset, none⟩)) → K d st → Good Γ a as (Instr.fieldAt t v f) w K := by
     rintro b o d rfl hd hk
     refine Good.val S (v := .pointer (some ⟨b, o + g.offset, none⟩)) ?_ hd hk
     simp [Instr.fieldAt, run_underlying hu, hg, Instr.sureAddr, fieldPlace, run_sizeOf w hne, hz, Addr.add_lit]
    split at h
    ·simp only [RVD] at hx
     obtain ⟨b, c, sz, hb, rfl⟩ := hx
     exact key b _ _ rfl (ref_ok hb) h
    ·simp only [RVD] at hx
     obtain ⟨b, c, sz, hb, rfl⟩ := hx
     exact key b _ _ rfl (by simp only [RVD]; exact ⟨b, c, sz, hb, by simp [Nat.add_assoc]⟩) h
    ·rename_i cs
     simp only [RVD, RV] at hx
     obtain ⟨b, o, rfl, hc⟩ := hx
     exact key b o _ rfl (by simp only [RVD, RV]; exact ⟨b, _, rfl, hc.sub _ _⟩) h.2
    ·exact h.elim
 ·exact h.elim
end
end Go.Proofs.YtpajpkbipagjpaaGreatDoor.Vm
namespace Go.Proofs.YtpajpkbipagjpaaGreatDoor.Vm
open Go Go.RowKit
section
variable {Γ : Ctx} {st : St} {a : Act} {as : List Act} {β : Nat → Pl} {w : World} {K : D → St → Prop}
def ofCells (P : Program) (t : TypeId) (cs : List Data) : Option Data :=
 if (kindT P t).agg = true then some (.agg (cs.take (szT P t))) else cs[0]?
def evLoad (E : Env) (st : St) (t : TypeId) (x : D) : Res :=
 match kindT E.P t with
 | .other => .stop
 | _ =>
   match x with
   | .dat (.ptr cs) => match ofCells E.P t cs with | some d => .req (szT E.P t ≤ cs.length) (.val (.dat d)) | none => .stop
   | .ref l o => match find st.h l with
     | some (.cells cs _) => match partD E.P t cs o with | some d => .val d | none => .stop
     | _ => .stop
   | .eref l i o => match find st.h l with
     | some (.arr e sz xs _) => match ofCells E.P t ((xs.getD i []).drop o) with
       | some d => .req (i < xs.length ∧ o + szT E.P t ≤ (xs.getD i []).length) (.val (.dat d))
       | none => .stop
     | _ => .stop
   | _ => .stop
theorem run_loadVar_at {P : Program} {w : World} {I : Cset} {t : TypeId} {b o : Nat} {cs : List Data} {d : Data} (hne : kindT P t ≠ .other)
 (hc : ∀ (j : Nat) (d : Data), j < szT P t → cs[j]? = some d → ∃ v, w.cell? ⟨b, o + j, none⟩ = some v ∧ RV w I d v) (hlen : szT P t ≤ cs.length) (h : ofCells P t cs = some d) (h1 : (kindT P t).agg = false → 0 < szT P t) :
 ∃ v, (loadVar t ⟨b, o, none⟩).run P w = .ok v w ∧ RV w I d v := by
 unfold ofCells at h
 by_cases ha : (kindT P t).agg = true
 ·rw [if_pos ha] at h
  simp only [Option.some.injEq] at h; subst h
  have hex : ∀ n, n ≤ szT P t → ∃ vs : List Value, vs.length = n ∧ ∀ (j : Nat) (v : Value), vs[j]? = some v → w.cell? ⟨b, o + j, none⟩ = some v ∧ ∀ d, cs[j]? = some d → RV w I d v := by
   intro n
   induction n with
   | zero => intro _; exact ⟨[], rfl, by simp⟩
   | succ n ih =>
     intro hn
     obtain ⟨vs, hl, hv⟩ := ih (by omega)
     obtain ⟨v, hcell, hr⟩ := hc n cs[n] (by omega) (List.getElem?_eq_getElem (by omega))
     refine ⟨vs ++ [v], by simp [hl], fun j u hj => ?_⟩
     rcases Nat.lt_or_ge j n with g | g
     ·rw [List.getElem?_append_left (by omega)] at hj
      exact hv j u hj
     ·rw [List.getElem?_append_right (by omega), hl] at hj
      have : j = n := by
       have := (List.getElem?_eq_some_iff.1 hj).1
       simp at this; omega
      subst this
      simp at hj; subst hj
      refine ⟨hcell, fun d hd => ?_⟩
      rw [List.getElem?_eq_getElem (by omega)] at hd
      cases hd
      exact hr
  obtain ⟨vs, hl, hv⟩ := hex _ (Nat.le_refl _)
  have hrun : (loadCells ⟨b, o, none⟩ vs.length).run P w = .ok vs.toArray w := run_loadCells_list (P := P) w ⟨b, o, none⟩ vs (fun j v hj => by rw [Addr.add_lit]; exact (hv j v hj).1)
  refine ⟨.agg vs.toArray, ?_, ?_⟩
  ·simp [loadVar, run_isAgg w hne, ha, run_sizeOf w hne, ← hl, hrun]
  ·simp only [RV]
   refine ⟨_, rfl, RVs.mk (by simp [hl]; omega) fun j d u hj hu => ?_⟩
   obtain ⟨hj1, hj2⟩ := getElem?_take_lt hj
   exact (hv j u (by simpa using hu)).2 d hj1
 ·rw [if_neg ha] at h
  obtain ⟨v, hcell, hr⟩ := hc 0 d (h1 (by simpa using ha)) h
  refine ⟨v, ?_, hr⟩
  simp [loadVar, run_isAgg w hne, ha]
  rw [Nat.add_zero] at hcell
  simp [hcell]
theorem good_load (S : Sim Γ st a as β w) (t : TypeId) (hpos : (kindT Γ.P t).agg = false → 0 < szT Γ.P t) {x : D} {v : Value} (hx : RVD w (Im Γ β st.h w) β x v) (h : (evLoad Γ.toEnv st t x).ok st K) : Good Γ a as (Instr.loadAt t v) w K := by
 unfold evLoad at h
 split at h
 ·exact h.elim
 ·rename_i hne
  have hne : kindT Γ.P t ≠ .other := fun e => hne e
  split at h
  ·rename_i cs
   split at h
   ·rename_i d hd
    obtain ⟨hlen, hk⟩ := h
    simp only [RVD, RV] at hx
    obtain ⟨b, o, rfl, hc⟩ := hx
    obtain ⟨v, hrun, hr⟩ := run_loadVar_at (I := Im Γ β st.h w) hne (fun j d _ hj => by obtain ⟨v, h1, _, _, h4⟩ := hc.at j d hj; exact ⟨v, h1, h4⟩) hlen hd hpos
    exact Good.val S (v := v) (by simp [Instr.loadAt, Instr.sureAddr, hrun]) (by simp only [RVD]; exact hr) hk
   ·exact h.elim
  ·rename_i l o
   split at h
   ·rename_i cs fz hf
    split at h
    ·rename_i d hd
     simp only [RVD] at hx
     obtain ⟨b, c, sz, hb, rfl⟩ := hx
     obtain ⟨b', c', sz', cur, e, hb', hge, hh, hcs⟩ := S.heap l _ hf
     rw [hb] at hb'; injection hb' with e1 e2 e3; subst e1
     obtain ⟨v, hrun, hr⟩ := partD_ok (P := Γ.P) hcs hd
     refine Good.val S (v := v) ?_ hr h
     -- a load is the part of the block's cells
     have hlen := hcs.length
     simp only [part, Sem.run_bind, run_isAgg w hne, Result.andThen_ok] at hrun
     simp only [Instr.loadAt, Instr.sureAddr, loadVar, Sem.run_bind, Sem.run_pure, Result.andThen_ok, run_isAgg w hne]
     by_cases ha : (kindT Γ.P t).agg = true
     ·simp only [ha, if_true, Sem.run_bind, run_sizeOf w hne, Result.andThen_ok, Sem.run_pure] at hrun ⊢
      have hd' : o + szT Γ.P t ≤ cs.length := by
       unfold partD at hd
       split at hd
       ·cases hd
       ·simp only [ha, if_true] at hd
        split at hd
        ·assumption
        ·cases hd
      have hl : (cur.extract o (o + szT Γ.P t)).toList.length = szT Γ.P t := by simp at hlen ⊢; omega
      have h2 : (loadCells ⟨b, o, none⟩ (cur.extract o (o + szT Γ.P t)).toList.length).run Γ.P w = .ok (cur.extract o (o + szT Γ.P t)).toList.toArray w :=
       run_loadCells_list (P := Γ.P) w ⟨b, o, none⟩ _ (fun j u hj => by
        rw [Addr.add_lit]
        simp only [World.cell?, hh, Option.isSome_none, Bool.false_eq_true, if_false]
        rw [Array.getElem?_toList, Array.getElem?_extract] at hj
        split at hj
        ·exact hj
        ·cases hj)
      rw [hl] at h2
      rw [h2, Array.toArray_toList]
      exact hrun
     ·simp only [ha, if_false, Bool.false_eq_true] at hrun ⊢
      have hcell : w.cell? ⟨b, o, none⟩ = cur[o]? := by simp only [World.cell?, hh, Option.isSome_none, Bool.false_eq_true, if_false]
      cases hv : cur[o]? with
      | none => simp [hv] at hrun
      | some u =>
        simp only [hv, Sem.run_pure, Result.ok.injEq] at hrun
        simp [hcell, hv, hrun]
    ·exact h.elim
   ·exact h.elim
  ·rename_i l i o
   split at h
   ·rename_i e sz xs fz hf
    split at h
    ·rename_i d hd
     obtain ⟨⟨hi, hlen⟩, hk⟩ := h
     simp only [RVD] at hx
     obtain ⟨b, c, sz', hb, rfl⟩ := hx
     obtain ⟨p1, p2, p3, p4⟩ := S.heap l _ hf
     rcases p4 with ⟨q, _⟩ | ⟨b', cap, cur, hb', hge, hh, hn, hm, hcs, hcells⟩
     ·rw [hb] at q; cases q
     ·rw [hb] at hb'; injection hb' with e1 e2 e3; subst e1 e2 e3
      have hxi : xs.getD i [] = xs[i] := by simp [List.getD, hi]
      have hxl : (xs.getD i []).length = sz' := by rw [hxi]; exact p3 _ (List.getElem_mem hi)
      obtain ⟨v, hrun, hr⟩ := run_loadVar_at (P := Γ.P) (w := w) (I := Im Γ β st.h w) (b := b) (o := i * sz' + o) hne (fun j d hjl hj => by
       rw [List.getElem?_drop] at hj
       have hfl : xs.flatten[i * sz' + (o + j)]? = some d := by
        have h1 := flatten_take (sz := sz') i p3
        have h2 : xs.flatten = (xs.take i).flatten ++ (xs[i] ++ (xs.drop (i + 1)).flatten) := by
         rw [← List.flatten_cons, ← List.flatten_append]
         congr 1
         rw [List.getElem_cons_drop, List.take_append_drop]
        have h3 : (xs.take i).flatten.length = i * sz' := by
         rw [flatten_length (fun x hx => p3 x (List.mem_of_mem_take hx)), List.length_take, Nat.min_eq_left (by omega)]
        rw [h2, List.getElem?_append_right (by omega), h3, Nat.add_sub_cancel_left, List.getElem?_append_left (by rw [← hxi, hxl]; omega), ← hxi]
        exact hj
       obtain ⟨_, v, hv, hrv⟩ := hcells _ _ hfl
       refine ⟨v, ?_, hrv⟩
       simp only [World.cell?, hh, Option.isSome_none, Bool.false_eq_true, if_false]
       rw [Nat.add_assoc]; exact hv) (by rw [List.length_drop]; omega) hd hpos
      exact Good.val S (v := v) (by simp [Instr.loadAt, Instr.sureAddr, hrun]) (by simp only [RVD]; exact hr) hk
    ·exact h.elim
   ·exact h.elim
  ·exact h.elim
end
end Go.Proofs.YtpajpkbipagjpaaGreatDoor.Vm
namespace Go.Proofs.YtpajpkbipagjpaaGreatDoor.Vm
open Go Go.RowKit
section
variable {Γ : Ctx} {st : St} {a : Act} {as : List Act} {β : Nat → Pl} {w : World} {K : D → St → Prop}
def D.one : D → Bool
 | .dat d => d.one
 | .agg _ | .tup _ | .junk => false
 | _ => true
theorem D.one_ok {w : World} {I : Cset} {d : D} {v : Value} (h : RVD w I β d v) (ho : d.one = true) : v.oneCell' = true := by
 cases d with
 | dat d => exact RV.one (by simpa only [RVD] using h) ho
 | agg _ => simp [D.one] at ho
 | tup _ => simp [D.one] at ho
 | junk => simp [D.one] at ho
 | nilsl => simp only [RVD] at h; obtain ⟨a, rfl⟩ := h; rfl
 | ref l o => simp only [RVD] at h; obtain ⟨b, c, sz, _, rfl⟩ := h; rfl
 | sl l o n => simp only [RVD] at h; rcases h with ⟨_, _, _, a, rfl⟩ | ⟨b, c, sz, a, _, _, rfl, _⟩ <;> rfl
 | eref l i o => simp only [RVD] at h; obtain ⟨b, c, sz, _, rfl⟩ := h; rfl
 | fn f xs ys => simp only [RVD] at h; obtain ⟨vs, us, rfl, _⟩ := h; rfl
 | yld l => simp only [RVD] at h; obtain ⟨b, c, sz, _, rfl⟩ := h; rfl
theorem ones_ok {w : World} {I : Cset} : ∀ {ds : List D} {vs : List Value}, RVDs w I β ds vs → ds.all D.one = true → ∀ v ∈ vs, v.oneCell' = true
 | [], vs, h, _, v, hv => by simp only [RVDs] at h; subst h; cases hv
 | d :: ds, vs, h, ho, v, hv => by
   simp only [RVDs] at h
   obtain ⟨u, r, rfl, h1, h2⟩ := h
   simp only [List.all_cons, Bool.and_eq_true] at ho
   rcases List.mem_cons.1 hv with e | e
   ·subst e; exact D.one_ok h1 ho.1
   ·exact ones_ok h2 ho.2 v e
theorem RVDs.append {w : World} {I : Cset} : ∀ {ds es : List D} {vs us : List Value}, RVDs w I β ds vs → RVDs w I β es us → RVDs w I β (ds ++ es) (vs ++ us)
 | [], es, vs, us, h, k => by simp only [RVDs] at h; subst h; exact k
 | d :: ds, es, vs, us, h, k => by
   simp only [RVDs] at h
   obtain ⟨u, r, rfl, h1, h2⟩ := h
   simp only [List.cons_append, RVDs]
   exact ⟨u, r ++ us, rfl, h1, RVDs.append h2 k⟩
theorem RVDs.take {w : World} {I : Cset} : ∀ {ds : List D} {vs : List Value} (n : Nat), RVDs w I β ds vs → RVDs w I β (ds.take n) (vs.take n)
 | [], vs, n, h => by simp only [RVDs] at h; subst h; simp [RVDs]
 | d :: ds, vs, 0, h => by simp [RVDs]
 | d :: ds, vs, n + 1, h => by
   simp only [RVDs] at h
   obtain ⟨u, r, rfl, h1, h2⟩ := h
   simp only [List.take_succ_cons, RVDs]
   exact ⟨u, _, rfl, h1, RVDs.take n h2⟩
theorem RVDs.drop {w : World} {I : Cset} : ∀ {ds : List D} {vs : List Value} (n : Nat), RVDs w I β ds vs → RVDs w I β (ds.drop n) (vs.drop n)
 | [], vs, n, h => by simp only [RVDs] at h; subst h; simp [RVDs]
 | d :: ds, vs, 0, h => by simpa using h
 | d :: ds, vs, n + 1, h => by
   simp only [RVDs] at h
   obtain ⟨u, r, rfl, h1, h2⟩ := h
   simpa only [List.drop_succ_cons] using RVDs.drop n h2
def splice {α : Type} (cs : List α) (o : Nat) (ds : List α) : List α := cs.take o ++ ds ++ cs.drop (o + ds.length)
theorem Sim.storeBox (S : Sim Γ st a as β w) {l o : Nat} {cs ds : List D} {b c sz : Nat} {vs : List Value} (hf : find st.h l = some (.cells cs false)) (hb : β l = .blk b c sz) (ho : o + ds.length ≤ cs.length)
 (hd : RVDs w (Im Γ β st.h w) β ds vs) (h1 : ds.all D.one = true) :
 ∃ w', (storeCells ⟨b, o, none⟩ vs).run Γ.P w = .ok () w' ∧ Sim Γ (st.setB l (.cells (splice cs o ds) false)) a as β w' := by
 obtain ⟨b', _, _, cur, e, hb', hge, hh, hc⟩ := S.heap l _ hf
 rw [hb] at hb'; injection hb' with e1 e2 e3; subst e1
 have hlen := hc.length
 have hdl := hd.length
 have hrun := run_storeCells_at Γ.P b o e vs 0 cur w hh (by simp at hlen; omega) (ones_ok hd h1)
 refine ⟨_, hrun, ?_⟩
 refine S.turn hf ?_ (by simp [World.setRow]) ?_ (fun _ _ h => h) ?_ ?_
 ·have h0 := S.below
  refine ⟨h0.os, h0.tape, h0.output, by simpa [World.setRow] using h0.size, fun k hk => ?_⟩
  rw [setRow_other w b k _ (by omega)]
  exact h0.block k hk
 ·intro b2 o2 hi
  by_cases eb : b2 = b
  ·subst eb
   rcases hi with hi | ⟨_, _, h3⟩
   ·have := S.hJ b2 o2 hi; omega
   ·exact absurd ⟨rfl, _, _, hb⟩ (h3 l _ hf)
  ·exact cell_of_heap (setRow_other w b b2 _ eb) o2
 ·intro k B2 b2 c2 sz2 hk hf2 hb2
  refine setRow_other w b b2 _ (fun he => hk ?_)
  exact S.apart k l B2 _ b2 c2 c sz2 sz hf2 hf hb2 (by rw [he]; exact hb)
 ·intro K
  refine ⟨b, c, sz, _, e, hb, hge, setRow_heap w b cur _ e _ hh, ?_⟩
  have hcs := RVDs.keeps K cs _ hc
  have hds := RVDs.keeps K ds _ hd
  have := ((hcs.take o).append hds).append (hcs.drop (o + ds.length))
  simpa [splice, hdl] using this
def dataOf : D → Option Data
 | .dat d => some d
 | .nilsl => some (.lst [])
 | _ => none
def datasOf : List D → Option (List Data)
 | [] => some []
 | d :: ds => match dataOf d, datasOf ds with
   | some x, some xs => some (x :: xs)
   | _, _ => none
theorem dataOf_ok {w : World} {I : Cset} {d : D} {v : Value} {x : Data} (h : RVD w I β d v) (hx : dataOf d = some x) : RV w I x v := by
 cases d <;> simp only [dataOf, Option.some.injEq] at hx <;> try cases hx
 ·simpa only [RVD] using h
 ·simp only [RVD] at h
  obtain ⟨a, rfl⟩ := h
  simp only [RV]
  exact ⟨a, 0, 0, rfl, rfl, by simp⟩
theorem datasOf_ok {w : World} {I : Cset} : ∀ {ds : List D} {vs : List Value} {xs : List Data}, RVDs w I β ds vs → datasOf ds = some xs → RVs w I xs vs
 | [], vs, xs, h, hx => by simp only [datasOf, Option.some.injEq] at hx; subst hx; exact h
 | d :: ds, vs, xs, h, hx => by
   simp only [datasOf] at hx
   split at hx
   ·rename_i x ys h1 h2
    simp only [Option.some.injEq] at hx; subst hx
    simp only [RVDs] at h
    obtain ⟨u, r, rfl, k1, k2⟩ := h
    simp only [RVs]
    exact ⟨u, r, rfl, dataOf_ok k1 h1, datasOf_ok k2 h2⟩
   ·cases hx
theorem flatten_get {α : Type} {sz : Nat} {xs : List (List α)} (p3 : ∀ x ∈ xs, x.length = sz) {i j : Nat} (hi : i < xs.length) (hj : j < sz) : xs.flatten[i * sz + j]? = (xs[i])[j]? := by
 have h2 : xs.flatten = (xs.take i).flatten ++ (xs[i] ++ (xs.drop (i + 1)).flatten) := by
  rw [← List.flatten_cons, ← List.flatten_append]
  congr 1
  rw [List.getElem_cons_drop, List.take_append_drop]
 have h3 : (xs.take i).flatten.length = i * sz := by
  rw [flatten_length (fun x hx => p3 x (List.mem_of_mem_take hx)), List.length_take, Nat.min_eq_left (by omega)]
 rw [h2, List.getElem?_append_right (by omega), h3, Nat.add_sub_cancel_left, List.getElem?_append_left (by rw [p3 _ (List.getElem_mem hi)]; exact hj)]
theorem Sim.storeElem (S : Sim Γ st a as β w) {l i o e sz fz : Nat} {xs : List (List Data)} {ys : List Data} {b c sz' : Nat} {vs : List Value} (hf : find st.h l = some (.arr e sz xs fz)) (hb : β l = .blk b c sz')
 (hi : i < xs.length) (hz : fz ≤ i) (ho : o + ys.length ≤ sz) (hd : RVs w (Im Γ β st.h w) ys vs) (h1 : ys.all Data.one = true) :
 ∃ w', (storeCells ⟨b, i * sz' + o, none⟩ vs).run Γ.P w = .ok () w' ∧ Sim Γ (st.setB l (.arr e sz (xs.set i (splice (xs.getD i []) o ys)) fz)) a as β w' := by
 obtain ⟨p1, p2, p3, p4⟩ := S.heap l _ hf
 rcases p4 with ⟨q, _⟩ | ⟨b', cap, cur, hb', hge, hh, hn, hm, hcs, hcells⟩
 ·rw [hb] at q; cases q
 ·rw [hb] at hb'; injection hb' with e1 e2 e3; subst e1 e2 e3
  have hdl := hd.length
  have hxi : xs.getD i [] = xs[i] := by simp [List.getD, hi]
  have hxl : (xs.getD i []).length = sz' := by rw [hxi]; exact p3 _ (List.getElem_mem hi)
  have hmul : (i + 1) * sz' ≤ xs.length * sz' := Nat.mul_le_mul_right _ hi
  have hmul2 : xs.length * sz' ≤ c * sz' := Nat.mul_le_mul_right _ hn
  have hsucc : (i + 1) * sz' = i * sz' + sz' := by rw [Nat.add_mul]; omega
  have hone : ∀ v ∈ vs, v.oneCell' = true := by
   intro v hv
   obtain ⟨j, hj⟩ := List.mem_iff_getElem?.1 hv
   have hjl := (List.getElem?_eq_some_iff.1 hj).1
   obtain ⟨u, hu, hr⟩ := hd.at j ys[j] (List.getElem?_eq_getElem (by omega))
   rw [hj] at hu; cases hu
   exact hr.one (List.all_eq_true.1 h1 _ (List.getElem_mem _))
  have hrun := run_storeCells_at Γ.P b (i * sz' + o) e vs 0 cur w hh (by omega) hone
  refine ⟨_, hrun, ?_⟩
  have hsl : (splice (xs.getD i []) o ys).length = sz' := by simp [splice]; rw [← List.getD_eq_getElem?_getD, hxl]; omega
  refine S.turn hf ?_ (by simp [World.setRow]) ?_ (fun _ _ h => h) ?_ ?_
  ·have h0 := S.below
   refine ⟨h0.os, h0.tape, h0.output, by simpa [World.setRow] using h0.size, fun k hk => ?_⟩
   rw [setRow_other w b k _ (by omega)]
   exact h0.block k hk
  ·intro b2 o2 hi2
   by_cases eb : b2 = b
   ·subst eb
    have hlt : o2 < fz * sz' := by
     rcases hi2 with hi2 | ⟨_, _, h3⟩
     ·have := S.hJ b2 o2 hi2; omega
     ·rcases Nat.lt_or_ge o2 (fz * sz') with g | g
      ·exact g
      ·exact absurd ⟨_, _, hb, g⟩ (h3 l _ hf)
    have hle : fz * sz' ≤ i * sz' := Nat.mul_le_mul_right _ hz
    rw [cell_setRow_same w b2 o2 cur _ e (0, 0) hh]
    simp only [World.cell?, hh, Option.isSome_none, Bool.false_eq_true, if_false]
    rw [List.getElem?_toArray, List.append_assoc, List.getElem?_append_left (by rw [List.length_take]; simp; omega), List.getElem?_take, if_pos (by omega)]
    simp
   ·exact cell_of_heap (setRow_other w b b2 _ eb) o2
  ·intro k B2 b2 c2 sz2 hk hf2 hb2
   refine setRow_other w b b2 _ (fun he => hk ?_)
   exact S.apart k l B2 _ b2 c2 c sz2 sz' hf2 hf hb2 (by rw [he]; exact hb)
  ·intro K
   refine ⟨p1, by simpa using p2, ?_, .inr ⟨b, c, _, hb, hge, setRow_heap w b cur _ e _ hh, by simpa using hn, hm, ?_, ?_⟩⟩
   ·intro x hx
    rcases List.mem_or_eq_of_mem_set hx with h | h
    ·exact p3 x h
    ·rw [h]; exact hsl
   ·simp only [List.size_toArray, List.length_append, List.length_take, List.length_drop, Array.length_toList]
    omega
   ·intro j d hj
    have p3' : ∀ x ∈ xs.set i (splice (xs.getD i []) o ys), x.length = sz' := fun x hx => by
     rcases List.mem_or_eq_of_mem_set hx with h | h
     ·exact p3 x h
     ·rw [h]; exact hsl
    have hjl := (List.getElem?_eq_some_iff.1 hj).1
    rw [flatten_length p3', List.length_set] at hjl
    have hdm := Nat.div_add_mod j sz'
    have hml := Nat.mod_lt j p1
    have hq : j / sz' < xs.length := Nat.div_lt_of_lt_mul (by rw [Nat.mul_comm]; exact hjl)
    have hj2 : (xs.set i (splice (xs.getD i []) o ys)).flatten[j / sz' * sz' + j % sz']? = some d := by rw [Nat.mul_comm, hdm]; exact hj
    rw [flatten_get p3' (by rw [List.length_set]; exact hq) hml] at hj2
    have old : (xs[j / sz'])[j % sz']? = some d → d.one = true ∧ ∃ v, cur[j]? = some v ∧ RV w (Im Γ β st.h w) d v := by
     intro h
     have := flatten_get p3 hq hml
     rw [h, Nat.mul_comm, hdm] at this
     exact hcells j d this
    have conv : ∀ u : Value, (j < i * sz' + o ∨ i * sz' + o + vs.length ≤ j) → cur[j]? = some u → (cur.toList.take (i * sz' + o + 0) ++ vs ++ cur.toList.drop (i * sz' + o + 0 + vs.length)).toArray[j]? = some u := by
     intro u hor hu
     have hcl := (Array.getElem?_eq_some_iff.1 hu).1
     rw [List.getElem?_toArray, List.append_assoc]
     rcases hor with g | g
     ·rw [List.getElem?_append_left (by rw [List.length_take]; simp; omega), List.getElem?_take, if_pos (by omega)]
      simpa using hu
     ·rw [List.getElem?_append_right (by rw [List.length_take]; simp; omega), List.length_take, List.getElem?_append_right (by simp; omega), List.getElem?_drop]
      rw [show i * sz' + o + 0 + vs.length + (j - min (i * sz' + o + 0) cur.toList.length - vs.length) = j by simp; omega]
      simpa using hu
    by_cases eq : j / sz' = i
    ·have hji : j = i * sz' + j % sz' := by
      have h9 := hdm
      rw [eq, Nat.mul_comm] at h9
      exact h9.symm
     have hset : (xs.set i (splice (xs.getD i []) o ys))[j / sz']'(by rw [List.length_set]; exact hq) = splice (xs.getD i []) o ys := by simp [List.getElem_set, eq]
     rw [hset] at hj2
     simp only [splice, List.append_assoc] at hj2
     rcases Nat.lt_or_ge (j % sz') o with g1 | g1
     ·rw [List.getElem?_append_left (by rw [List.length_take]; omega), List.getElem?_take, if_pos g1] at hj2
      obtain ⟨h2, v, hv, hr⟩ := old (by rw [← hj2]; simp only [eq, hxi])
      exact ⟨h2, v, conv v (.inl (by omega)) hv, RV.keeps K d v hr⟩
     ·rw [List.getElem?_append_right (by rw [List.length_take]; omega), List.length_take, Nat.min_eq_left (by omega)] at hj2
      rcases Nat.lt_or_ge (j % sz' - o) ys.length with g2 | g2
      ·rw [List.getElem?_append_left g2] at hj2
       obtain ⟨v, hv, hr⟩ := hd.at _ d hj2
       refine ⟨List.all_eq_true.1 h1 _ (List.mem_of_getElem? hj2), v, ?_, RV.keeps K d v hr⟩
       rw [List.getElem?_toArray, List.append_assoc, List.getElem?_append_right (by rw [List.length_take]; simp; omega), List.length_take, List.getElem?_append_left (by simp; omega)]
       rw [show j - min (i * sz' + o + 0) cur.toList.length = j % sz' - o by simp; omega]
       exact hv
      ·rw [List.getElem?_append_right g2, List.getElem?_drop] at hj2
       obtain ⟨h2, v, hv, hr⟩ := old (by rw [← hj2, show o + ys.length + (j % sz' - o - ys.length) = j % sz' by omega]; simp only [eq, hxi])
       exact ⟨h2, v, conv v (.inr (by omega)) hv, RV.keeps K d v hr⟩
    ·have hset : (xs.set i (splice (xs.getD i []) o ys))[j / sz']'(by rw [List.length_set]; exact hq) = xs[j / sz'] := by rw [List.getElem_set, if_neg (fun h => eq h.symm)]
     rw [hset] at hj2
     obtain ⟨h2, v, hv, hr⟩ := old hj2
     refine ⟨h2, v, conv v ?_ hv, RV.keeps K d v hr⟩
     rcases Nat.lt_or_ge (j / sz') i with g | g
     ·left
      have : (j / sz' + 1) * sz' ≤ i * sz' := Nat.mul_le_mul_right _ g
      rw [Nat.add_mul, Nat.mul_comm (j / sz')] at this
      omega
     ·right
      have : (i + 1) * sz' ≤ j / sz' * sz' := Nat.mul_le_mul_right _ (by omega)
      rw [Nat.mul_comm (j / sz')] at this
      omega
end
end Go.Proofs.YtpajpkbipagjpaaGreatDoor.Vm
namespace Go.Proofs.YtpajpkbipagjpaaGreatDoor.Vm
open Go Go.RowKit
inductive ResU where
 | st (s : St)
 | req (p : Prop) (r : ResU)
 | stop
def ResU.ok (K : St → Prop) : ResU → Prop
 | .st s => K s
 | .req p r => p ∧ r.ok K
 | .stop => False
def GoodU (Γ : Ctx) (a : Act) (as : List Act) (β : Nat → Pl) (s : Sem Unit) (w : World) (K : St → Prop) : Prop :=
 ∃ w' st', s.run Γ.P w = .ok () w' ∧ Sim Γ st' a as β w' ∧ K st'
def evStore (E : Env) (st : St) (t : TypeId) (x v : D) : ResU :=
 match kindT E.P t with
 | .other => .stop
 | _ =>
   match cellsD v with
   | none => .stop
   | some ds =>
     if ds.length = szT E.P t then
      if ds.all D.one then
       match x with
       | .ref l o => match find st.h l with
         | some (.cells cs false) => .req (o + ds.length ≤ cs.length) (.st (st.setB l (.cells (splice cs o ds) false)))
         | _ => .stop
       | .eref l i o => match find st.h l with
         | some (.arr e sz xs fz) => match datasOf ds with
           | some ys => .req (i < xs.length ∧ fz ≤ i ∧ o + ys.length ≤ sz ∧ ys.all Data.one = true) (.st (st.setB l (.arr e sz (xs.set i (splice (xs.getD i []) o ys)) fz)))
           | none => .stop
         | _ => .stop
       | _ => .stop
      else .stop
     else .stop
section
variable {Γ : Ctx} {st : St} {a : Act} {as : List Act} {β : Nat → Pl} {w : World}
theorem good_store {K : St → Prop} (S : Sim Γ st a as β w) (t : TypeId) {x v : D} {vx vv : Value} (hx : RVD w (Im Γ β st.h w) β x vx) (hv : RVD w (Im Γ β st.h w) β v vv) (h : (evStore Γ.toEnv st t x v).ok K) :
 GoodU Γ a as β (Instr.storeAt t vx vv) w K := by
 unfold evStore at h
 split at h
 ·exact h.elim
 ·rename_i hne
  have hne : kindT Γ.P t ≠ .other := fun e => hne e
  split at h
  ·exact h.elim
  ·rename_i ds hds
   split at h
   ·rename_i hsz
    have hsz : ds.length = szT Γ.P t := hsz
    split at h
    ·rename_i hone
     have hc := cellsD_ok hv hds
     have hlen := hc.length
     have run : ∀ (b o : Nat) (w' : World), (storeCells ⟨b, o, none⟩ vv.cells.toList).run Γ.P w = .ok () w' → (Instr.storeAt t (.pointer (some ⟨b, o, none⟩)) vv).run Γ.P w = .ok () w' := by
      intro b o w' hr
      have e1 : ¬ (vv.cells.size ≠ szT Γ.P t) := by simp at hlen; omega
      simp only [Instr.storeAt, Instr.sureAddr, storeVar, Sem.run_bind, Sem.run_pure, Result.andThen_ok, run_sizeOf w hne, if_neg e1, hr]
     split at h
     ·rename_i l o
      split at h
      ·rename_i cs hf
       simp only [RVD] at hx
       obtain ⟨b, c, sz, hb, rfl⟩ := hx
       obtain ⟨w', hr, S'⟩ := S.storeBox hf hb h.1 hc hone
       exact ⟨w', _, run b o w' hr, S', h.2⟩
      ·exact h.elim
     ·rename_i l i o
      split at h
      ·rename_i e sz xs fz hf
       split at h
       ·rename_i ys hys
        simp only [RVD] at hx
        obtain ⟨b, c, sz', hb, rfl⟩ := hx
        obtain ⟨⟨h1, h2, h3, h4⟩, hk⟩ := h
        obtain ⟨w', hr, S'⟩ := S.storeElem hf hb h1 h2 h3 (datasOf_ok hc hys) h4
        exact ⟨w', _, run b _ w' hr, S', hk⟩
       ·exact h.elim
      ·exact h.elim
     ·exact h.elim
    ·exact h.elim
   ·exact h.elim
end
section
variable {Γ : Ctx} {st : St} {a : Act} {as : List Act} {β : Nat → Pl} {w : World} {K : D → St → Prop}
def evIndexAddr (E : Env) (st : St) (t : TypeId) (x i : D) : Res :=
 match kindT E.P t, i with
 | .slice e, .dat (.int k n) =>
   match kindT E.P e with
   | .other => .stop
   | _ =>
     match x with
     | .dat (.lst xs) => .req (0 ≤ n ∧ n < xs.length ∧ (xs.getD n.toNat []).length = szT E.P e) (.val (.dat (.ptr (xs.getD n.toNat []))))
     | .sl l o m => match find st.h l with
       | some (.arr e' sz xs fz) => if sz = szT E.P e then .req (0 ≤ n ∧ n < m) (.val (.eref l (o + n.toNat) 0)) else .stop
       | _ => .stop
     | _ => .stop
 | .arr m e, .dat (.int k n) =>
   match kindT E.P e with
   | .other => .stop
   | _ =>
     match x with
     | .dat (.ptr cs) => .req (0 ≤ n ∧ n < m ∧ m * szT E.P e ≤ cs.length) (.val (.dat (.ptr ((cs.drop (n.toNat * szT E.P e)).take (szT E.P e)))))
     | .ref l o => .req (0 ≤ n ∧ n < m) (.val (.ref l (o + n.toNat * szT E.P e)))
     | _ => .stop
 | _, _ => .stop
theorem good_indexAddr (S : Sim Γ st a as β w) (t : TypeId) {x i : D} {vx vi : Value} (hx : RVD w (Im Γ β st.h w) β x vx) (hi : RVD w (Im Γ β st.h w) β i vi) (h : (evIndexAddr Γ.toEnv st t x i).ok st K) :
 Good Γ a as (Instr.indexAt t vx vi) w K := by
 unfold evIndexAddr at h
 split at h
 ·rename_i e k n hk
  have hu := underlying_slice (P := Γ.P) hk
  simp only [RVD, RV] at hi
  subst hi
  split at h
  ·exact h.elim
  ·rename_i hne
   have hne : kindT Γ.P e ≠ .other := fun e => hne e
   have run : ∀ (b o m c : Nat), 0 ≤ n → n < m → (Instr.indexAt t (.slice (some ⟨b, o, none⟩) m c) (.int k n)).run Γ.P w = .ok (.pointer (some ⟨b, o + n.toNat * szT Γ.P e, none⟩)) w := by
    intro b o m c h0 h1
    simp [Instr.indexAt, asIntOf, run_underlying hu, h0, h1, run_sizeOf w hne, Addr.add_lit]
   split at h
   ·rename_i xs
    obtain ⟨⟨h0, h1, h2⟩, hk⟩ := h
    simp only [RVD, RV] at hx
    obtain ⟨ad, m, c, rfl, rfl, hnc, hc⟩ := hx
    rcases hc with hc | ⟨b, o, sz, rfl, hz, hre⟩
    ·subst hc; simp at h1; omega
    ·have hnl : n.toNat < xs.length := by omega
     have hxi : xs.getD n.toNat [] = xs[n.toNat] := by simp [List.getD, hnl]
     obtain ⟨hl, hrc⟩ := hre.at n.toNat _ (List.getElem?_eq_getElem hnl)
     have hsz : sz = szT Γ.P e := by rw [← hl, ← hxi]; exact h2
     refine Good.val S (run b o _ c h0 h1) ?_ hk
     simp only [RVD, RV]
     exact ⟨b, _, rfl, by rw [hxi, ← hsz]; exact hrc⟩
   ·rename_i l o m
    split at h
    ·rename_i e' sz xs fz hf
     split at h
     ·rename_i hsz
      have hsz : sz = szT Γ.P e := hsz
      obtain ⟨⟨h0, h1⟩, hk⟩ := h
      simp only [RVD] at hx
      rcases hx with ⟨_, _, hm, _⟩ | ⟨b, c, sz', ad, hb, hle, rfl, had⟩
      ·omega
      ·have had' : ad = some ⟨b, o * sz', none⟩ := by
        rcases had with g | g
        ·exact g
        ·omega
       subst had'
       obtain ⟨p1, p2, p3, p4⟩ := S.heap l _ hf
       have hss : sz' = sz := by
        rcases p4 with ⟨q, _⟩ | ⟨b', cap, cur, hb', _⟩
        ·rw [hb] at q; cases q
        ·rw [hb] at hb'; injection hb'
       refine Good.val S (run b _ m _ h0 h1) ?_ hk
       simp only [RVD]
       exact ⟨b, c, sz', hb, by rw [Nat.add_zero, Nat.add_mul, hss, hsz]⟩
     ·exact h.elim
    ·exact h.elim
   ·exact h.elim
 ·rename_i m e k n hk
  have hu := underlying_arr (P := Γ.P) hk
  simp only [RVD, RV] at hi
  subst hi
  split at h
  ·exact h.elim
  ·rename_i hne
   have hne : kindT Γ.P e ≠ .other := fun e => hne e
   have run : ∀ (b o : Nat), 0 ≤ n → n < m → (Instr.indexAt t (.pointer (some ⟨b, o, none⟩)) (.int k n)).run Γ.P w = .ok (.pointer (some ⟨b, o + n.toNat * szT Γ.P e, none⟩)) w := by
    intro b o h0 h1
    simp [Instr.indexAt, asIntOf, run_underlying hu, h0, h1, run_sizeOf w hne, Addr.add_lit, Instr.sureAddr]
   split at h
   ·rename_i cs
    obtain ⟨⟨h0, h1, h2⟩, hk⟩ := h
    simp only [RVD, RV] at hx
    obtain ⟨b, o, rfl, hc⟩ := hx
    refine Good.val S (run b o h0 h1) ?_ hk
    simp only [RVD, RV]
    exact ⟨b, _, rfl, hc.sub _ _⟩
   ·rename_i l o
    obtain ⟨⟨h0, h1⟩, hk⟩ := h
    simp only [RVD] at hx
    obtain ⟨b, c, sz, hb, rfl⟩ := hx
    exact Good.val S (run b o h0 h1) (ref_ok hb) hk
   ·exact h.elim
 ·exact h.elim
def byteAt (s : List UInt8) (n : Int) : UInt8 := s.getD n.toNat 0
theorem dats_RVs' {w : World} {I : Cset} {β : Nat → Pl} : ∀ {ds : List Data} {vs : List Value}, RVDs w I β (ds.map .dat) vs → RVs w I ds vs
 | [], vs, h => h
 | d :: ds, vs, h => by
   simp only [List.map_cons, RVDs] at h
   simp only [RVs]
   obtain ⟨v, r, rfl, h1, h2⟩ := h
   exact ⟨v, r, rfl, h1, dats_RVs' h2⟩
def evIndex (E : Env) (t : TypeId) (x i : D) : Res :=
 match kindT E.P t, x, i with
 | .str, .dat (.str s), .dat (.int k n) => .req (0 ≤ n ∧ n < s.length) (.val (.dat (.int .u8 (byteAt s n).toNat)))
 | .arr m e, .dat (.agg cs), .dat (.int k n) => match kindT E.P e with
   | .other => .stop
   | ke => .req (0 ≤ n ∧ n < m ∧ n.toNat * szT E.P e + szT E.P e ≤ cs.length ∧ n.toNat * szT E.P e < cs.length)
    (.val (.dat (if ke.agg = true then .agg ((cs.drop (n.toNat * szT E.P e)).take (szT E.P e)) else cs.getD (n.toNat * szT E.P e) .nilp)))
 | _, _, _ => .stop
theorem good_index (S : Sim Γ st a as β w) (t : TypeId) {x i : D} {vx vi : Value} (hx : RVD w (Im Γ β st.h w) β x vx) (hi : RVD w (Im Γ β st.h w) β i vi) (h : (evIndex Γ.toEnv t x i).ok st K) :
 Good Γ a as (Instr.index t vx vi) w K := by
 unfold evIndex at h
 split at h
 ·rename_i s k n hk
  have hu := underlying_str (P := Γ.P) hk
  simp only [RVD, RV] at hx hi
  subst hx hi
  obtain ⟨⟨h0, h1⟩, hk⟩ := h
  have hnl : n.toNat < s.length := by omega
  have hb : (⟨s.toArray⟩ : ByteArray)[n.toNat]? = some (byteAt s n) := by
   have e1 : (⟨s.toArray⟩ : ByteArray)[n.toNat]? = s[n.toNat]? := by
    have : n.toNat < (⟨s.toArray⟩ : ByteArray).size := by simpa [ByteArray.size] using hnl
    rw [List.getElem?_eq_getElem hnl]
    exact (getElem?_pos (⟨s.toArray⟩ : ByteArray) n.toNat this)
   rw [e1, byteAt, List.getElem?_eq_getElem hnl]
   simp [hnl]
  refine Good.val S (v := .int .u8 (byteAt s n).toNat) ?_ (by simp only [RVD, RV]) hk
  simp [Instr.index, asIntOf, run_underlying hu, h0, hb]
 ·rename_i m e cs k n hk
  have hu := underlying_arr (P := Γ.P) hk
  split at h
  ·exact h.elim
  ·rename_i hne
   obtain ⟨⟨h0, h1, h2, h3⟩, hk⟩ := h
   simp only [RVD, RV] at hx hi
   obtain ⟨vs, hv, hr⟩ := hx
   subst hi
   have hr' : RVDs w (Im Γ β st.h w) β (cs.map .dat) vs.toList := RVDs_map_dat hr
   have hp : partD Γ.P e (cs.map .dat) (n.toNat * szT Γ.P e) = some (if (kindT Γ.P e).agg = true then .agg (((cs.map D.dat).drop (n.toNat * szT Γ.P e)).take (szT Γ.P e)) else .dat (cs.getD (n.toNat * szT Γ.P e) .nilp)) := by
    have h2' : n.toNat * szT Γ.P e + szT Γ.P e ≤ (cs.map D.dat).length := by rw [List.length_map]; exact h2
    unfold partD
    split
    ·rename_i e0; exact absurd e0 hne
    ·split
     ·first | rfl | rw [if_pos h2']
     ·rw [List.getElem?_map, List.getElem?_eq_getElem h3, List.getD_eq_getElem?_getD, List.getElem?_eq_getElem h3]; rfl
   obtain ⟨u, hrun, hd⟩ := partD_ok hr' hp
   refine Good.val S (v := u) ?_ ?_ hk
   ·rw [hv]
    simp only [Instr.index, asIntOf, run_underlying hu, Sem.run_bind, Result.andThen_ok, Sem.run_pure]
    rw [if_pos ⟨h0, h1⟩]
    simp only [Sem.run_bind, run_sizeOf w hne, Result.andThen_ok]
    exact hrun
   ·split at hd
    ·rename_i hA
     rw [if_pos hA]
     simp only [RVD, RV] at hd ⊢
     obtain ⟨us, e1, e2⟩ := hd
     refine ⟨us, e1, ?_⟩
     rw [← List.map_drop, ← List.map_take] at e2
     exact dats_RVs' e2
    ·rename_i hA
     rw [if_neg hA]
     exact hd
 ·exact h.elim
def sliceLo : Option D → Option Int
 | none => some 0
 | some (.dat (.int k n)) => some n
 | _ => none
def sliceHi (len : Int) : Option D → Option Int
 | none => some len
 | some (.dat (.int k n)) => some n
 | _ => none
def clipD (m : Int) (xs : List (List Data)) : D := if m = 0 then .nilsl else .dat (.lst xs)
theorem clipD_zero {xs : List (List Data)} : clipD 0 xs = .nilsl := rfl
theorem clipD_pos {m : Int} {xs : List (List Data)} (h : ¬ m = 0) : clipD m xs = .dat (.lst xs) := if_neg h
def evSlice (E : Env) (st : St) (t : TypeId) (x : D) (lo hi mx : Option D) : Res :=
 match kindT E.P t, x, mx with
 | .str, .dat (.str s), none =>
   match sliceLo lo, sliceHi s.length hi with
   | some l, some h => .req (0 ≤ l ∧ l ≤ h ∧ h ≤ s.length) (.val (.dat (.str ((s.drop l.toNat).take (h - l).toNat))))
   | _, _ => .stop
 | .slice e, .dat (.lst xs), none =>
   match kindT E.P e, sliceLo lo, sliceHi xs.length hi with
   | .other, _, _ => .stop
   | _, some l, some h => .req (0 ≤ l ∧ l ≤ h ∧ h ≤ xs.length ∧ ∀ x ∈ xs, x.length = szT E.P e) (.val (.dat (.lst ((xs.drop l.toNat).take (h - l).toNat))))
   | _, _, _ => .stop
 | .slice e, .dat (.lst xs), some m =>
   match kindT E.P e, sliceLo lo, sliceHi xs.length hi, m with
   | .other, _, _, _ => .stop
   | _, some l, some h, .dat (.int k m) => .req (hi.isSome = true ∧ l = 0 ∧ (h = 0 ∧ m = 0 ∨ 0 ≤ h ∧ h ≤ m ∧ m ≤ xs.length ∧ ∀ x ∈ xs, x.length = szT E.P e)) (.val (clipD m (xs.take h.toNat)))
   | _, _, _, _ => .stop
 | .slice e, .sl l o n, none =>
   match kindT E.P e, sliceLo lo, sliceHi n hi with
   | .other, _, _ => .stop
   | _, some a, some b => match find st.h l with
     | some (.arr e' sz xs fz) => if sz = szT E.P e then .req (0 ≤ a ∧ a ≤ b ∧ b ≤ n) (.val (.sl l (o + a.toNat) (b - a).toNat)) else .stop
     | _ => .stop
   | _, _, _ => .stop
 | .slice e, .sl l o n, some m =>
   match kindT E.P e, sliceLo lo, sliceHi n hi, m with
   | .other, _, _, _ => .stop
   | _, some l, some h, .dat (.int k m) => .req (hi.isSome = true ∧ l = 0 ∧ h = 0 ∧ m = 0) (.val .nilsl)
   | _, _, _, _ => .stop
 | .slice e, .nilsl, _ =>
   match kindT E.P e, sliceLo lo, sliceHi 0 hi, sliceHi 0 mx with
   | .other, _, _, _ => .stop
   | _, some l, some h, some m => .req ((mx.isSome = true → hi.isSome = true) ∧ l = 0 ∧ h = 0 ∧ m = 0) (.val .nilsl)
   | _, _, _, _ => .stop
 | .arr m e, .dat (.ptr cs), none =>
   match kindT E.P e, lo, hi with
   | .other, _, _ => .stop
   | _, none, none => .req (0 < m ∧ szT E.P e = 1 ∧ cs.length = m) (.val (.dat (.lst (cs.map fun d => [d]))))
   | _, _, _ => .stop
 | _, _, _ => .stop
theorem sliceLo_ok {w : World} {I : Cset} {lo : Option D} {vlo : Option Value} {l : Int} (h : match lo, vlo with | none, none => True | some d, some v => RVD w I β d v | _, _ => False) (hl : sliceLo lo = some l) :
 (vlo = none ∧ l = 0) ∨ ∃ k, vlo = some (.int k l) := by
 cases lo with
 | none => cases vlo with
   | none => simp only [sliceLo, Option.some.injEq] at hl; exact .inl ⟨rfl, hl.symm⟩
   | some v => exact h.elim
 | some d => cases vlo with
   | none => exact h.elim
   | some v =>
     unfold sliceLo at hl
     split at hl
     ·cases ‹some d = none›
     ·rename_i k n e
      cases e
      simp only [Option.some.injEq] at hl; subst hl
      simp only [RVD, RV] at h
      subst h
      exact .inr ⟨_, rfl⟩
     ·cases hl
theorem sliceHi_ok {w : World} {I : Cset} {lo : Option D} {vlo : Option Value} {l len : Int} (h : match lo, vlo with | none, none => True | some d, some v => RVD w I β d v | _, _ => False) (hl : sliceHi len lo = some l) :
 (vlo = none ∧ l = len) ∨ ∃ k, vlo = some (.int k l) := by
 cases lo with
 | none => cases vlo with
   | none => simp only [sliceHi, Option.some.injEq] at hl; exact .inl ⟨rfl, hl.symm⟩
   | some v => exact h.elim
 | some d => cases vlo with
   | none => exact h.elim
   | some v =>
     unfold sliceHi at hl
     split at hl
     ·cases ‹some d = none›
     ·rename_i k n e
      cases e
      simp only [Option.some.injEq] at hl; subst hl
      simp only [RVD, RV] at h
      subst h
      exact .inr ⟨_, rfl⟩
     ·cases hl
theorem run_bounds {P : Program} {w : World} (isSlice : Bool) (len cap : Nat) {vlo vhi : Option Value} {l h : Int} (hl : (vlo = none ∧ l = 0) ∨ ∃ k, vlo = some (.int k l)) (hh : (vhi = none ∧ h = len) ∨ ∃ k, vhi = some (.int k h))
 (h0 : 0 ≤ l) (h1 : l ≤ h) (h2 : h ≤ cap) (h3 : len ≤ cap) : (Instr.sliceBounds isSlice len cap vlo vhi none).run P w = .ok (l.toNat, h.toNat, cap) w := by
 have hh0 : 0 ≤ h := by omega
 rcases hl with ⟨rfl, rfl⟩ | ⟨k, rfl⟩ <;> rcases hh with ⟨rfl, rfl⟩ | ⟨k', rfl⟩
 ·simp [Instr.sliceBounds]
 ·simp [Instr.sliceBounds, Instr.sliceBound, asIntOf, hh0, h2]
 ·simp [Instr.sliceBounds, Instr.sliceBound, asIntOf, h0, h1]
 ·have hm : max h 0 = h := by omega
  have hn : ¬ h < l := by omega
  simp [Instr.sliceBounds, Instr.sliceBound, asIntOf, hh0, h2, h0, hm, h1, hn]
end
end Go.Proofs.YtpajpkbipagjpaaGreatDoor.Vm
namespace Go.Proofs.YtpajpkbipagjpaaGreatDoor.Vm
open Go Go.RowKit
theorem RE.sub {w : World} {I : Cset} {sz : Nat} {xs : List (List Data)} {b o : Nat} (h : RE w I sz xs b o) (l n : Nat) : RE w I sz ((xs.drop l).take n) b (o + l * sz) := by
 refine RE.mk fun i x hi => ?_
 obtain ⟨hi1, hi2⟩ := getElem?_take_lt hi
 rw [List.getElem?_drop] at hi1
 have := h.at _ _ hi1
 rwa [Nat.add_mul, ← Nat.add_assoc] at this
theorem RV.slice {w : World} {I : Cset} {xs : List (List Data)} {a : Option Addr} {n c sz l h : Nat} (hv : RV w I (.lst xs) (.slice a n c)) (hx : ∀ x ∈ xs, x.length = sz) (h1 : l ≤ h) (h2 : h ≤ xs.length) :
 RV w I (.lst ((xs.drop l).take (h - l))) (.slice (if c = l then a else a.map (·.add (l * sz))) (h - l) (c - l)) := by
 simp only [RV] at hv ⊢
 obtain ⟨a', n', c', e, rfl, hnc, hc⟩ := hv
 injection e with e1 e2 e3; subst e1 e2 e3
 refine ⟨_, _, _, rfl, by simp; omega, by omega, ?_⟩
 by_cases e : h - l = 0
 ·exact .inl (by rw [e]; simp)
 ·rcases hc with hc | ⟨b, o, sz', rfl, hz, hre⟩
  ·subst hc; simp at h2; omega
  ·right
   have hsz : sz' = sz := by
    obtain ⟨x, hx0⟩ : ∃ x, xs[0]? = some x := ⟨xs[0]'(by omega), List.getElem?_eq_getElem _⟩
    rw [← (hre.at 0 x hx0).1, hx x (List.mem_of_getElem? hx0)]
   subst hsz
   refine ⟨b, o + l * sz', sz', ?_, hz, hre.sub l _⟩
   rw [if_neg (by omega)]
   simp [Addr.add_lit]
section
variable {Γ : Ctx} {st : St} {a : Act} {as : List Act} {β : Nat → Pl} {w : World} {K : D → St → Prop}
def OptOK (w : World) (I : Cset) (β : Nat → Pl) : Option D → Option Value → Prop
 | none, none => True
 | some d, some v => RVD w I β d v
 | _, _ => False
theorem OptOK.lo {w : World} {I : Cset} {lo : Option D} {vlo : Option Value} {l : Int} (h : OptOK w I β lo vlo) (hl : sliceLo lo = some l) : (vlo = none ∧ l = 0) ∨ ∃ k, vlo = some (.int k l) := by
 refine sliceLo_ok (w := w) (I := I) (β := β) (lo := lo) ?_ hl
 cases lo <;> cases vlo <;> exact h
theorem OptOK.hi {w : World} {I : Cset} {lo : Option D} {vlo : Option Value} {l len : Int} (h : OptOK w I β lo vlo) (hl : sliceHi len lo = some l) : (vlo = none ∧ l = len) ∨ ∃ k, vlo = some (.int k l) := by
 refine sliceHi_ok (w := w) (I := I) (β := β) (lo := lo) ?_ hl
 cases lo <;> cases vlo <;> exact h
theorem OptOK.isSome {w : World} {I : Cset} {d : Option D} {v : Value} (h : OptOK w I β d (some v)) : d.isSome = true := by
 cases d
 ·exact h.elim
 ·rfl
theorem run_bounds0 {P : Program} {w : World} (isSlice : Bool) (len cap : Nat) {vlo vhi : Option Value} {vm : Value} (hl : vlo = none ∨ ∃ k, vlo = some (.int k 0)) (hh : ∃ k, vhi = some (.int k 0)) (hm : ∃ k, vm = .int k 0) :
 (Instr.sliceBounds isSlice len cap vlo vhi (some vm)).run P w = .ok (0, 0, 0) w := by
 obtain ⟨k, rfl⟩ := hh
 obtain ⟨k', rfl⟩ := hm
 rcases hl with rfl | ⟨k'', rfl⟩ <;> simp [Instr.sliceBounds, Instr.sliceBound, asIntOf]
theorem extract_bytes (s : List UInt8) (l h : Nat) (h1 : l ≤ h) (h2 : h ≤ s.length) : (⟨s.toArray⟩ : ByteArray).extract l h = ⟨((s.drop l).take (h - l)).toArray⟩ := by
 have := Lib.extract_data (⟨s.toArray⟩ : ByteArray) l h
 apply ByteArray.ext
 apply Array.ext'
 simp
theorem run_slice_row {P : Program} {w : World} {t e : TypeId} {ad : Option Addr} {n c : Nat} {vlo vhi : Option Value} {l h : Int} (hu : P.underlying t = some (.slice e)) (hne : kindT P e ≠ .other)
 (hl : (vlo = none ∧ l = 0) ∨ ∃ k, vlo = some (.int k l)) (hh : (vhi = none ∧ h = n) ∨ ∃ k, vhi = some (.int k h)) (h0 : 0 ≤ l) (h1 : l ≤ h) (h2 : h ≤ c) (h3 : n ≤ c) :
 (Instr.sliceAt t (.slice ad n c) vlo vhi none).run P w = .ok (.slice (if c = l.toNat then ad else ad.map (·.add (l.toNat * szT P e))) (h.toNat - l.toNat) (c - l.toNat)) w := by
 simp only [Instr.sliceAt, Instr.slice, Sem.run_bind, run_underlying hu, Result.andThen_ok, run_bounds true n c hl hh h0 h1 h2 h3, run_sizeOf w hne, Sem.run_pure]
theorem run_slice_row0 {P : Program} {w : World} {t e : TypeId} {ad : Option Addr} {n c : Nat} {vlo vhi : Option Value} {vm : Value} (hu : P.underlying t = some (.slice e)) (hne : kindT P e ≠ .other)
 (hl : vlo = none ∨ ∃ k, vlo = some (.int k 0)) (hh : ∃ k, vhi = some (.int k 0)) (hm : ∃ k, vm = .int k 0) : (Instr.sliceAt t (.slice ad n c) vlo vhi (some vm)).run P w = .ok (.slice ad 0 0) w := by
 simp only [Instr.sliceAt, Instr.slice, Sem.run_bind, run_underlying hu, Result.andThen_ok, run_bounds0 true n c hl hh hm, run_sizeOf w hne, Sem.run_pure, if_true]
theorem run_boundsM {P : Program} {w : World} (len cap : Nat) {vlo vhi : Option Value} {vm : Value} {h m : Int} (hl : vlo = none ∨ ∃ k, vlo = some (.int k 0)) (hh : ∃ k, vhi = some (.int k h)) (hm : ∃ k, vm = .int k m) (h0 : 0 ≤ h) (h1 : h ≤ m) (h2 : m ≤ cap) :
 (Instr.sliceBounds true len cap vlo vhi (some vm)).run P w = .ok (0, h.toNat, m.toNat) w := by
 obtain ⟨k, rfl⟩ := hh
 obtain ⟨k', rfl⟩ := hm
 have hm0 : 0 ≤ m := by omega
 have e1 : max m 0 = m := by omega
 have e2 : max h 0 = h := by omega
 have n1 : ¬ m < h := by omega
 have n2 : ¬ h < 0 := by omega
 rcases hl with rfl | ⟨k'', rfl⟩ <;> simp [Instr.sliceBounds, Instr.sliceBound, asIntOf, hm0, h0, h1, h2, e1, e2, n1, n2]
theorem run_slice_rowM {P : Program} {w : World} {t e : TypeId} {ad : Option Addr} {n c : Nat} {vlo vhi : Option Value} {vm : Value} {h m : Int} (hu : P.underlying t = some (.slice e)) (hne : kindT P e ≠ .other)
 (hl : vlo = none ∨ ∃ k, vlo = some (.int k 0)) (hh : ∃ k, vhi = some (.int k h)) (hm : ∃ k, vm = .int k m) (h0 : 0 ≤ h) (h1 : h ≤ m) (h2 : m ≤ c) : (Instr.sliceAt t (.slice ad n c) vlo vhi (some vm)).run P w = .ok (.slice (if m.toNat = 0 then ad else ad.map (·.add (0 * szT P e))) h.toNat m.toNat) w := by
 simp only [Instr.sliceAt, Instr.slice, Sem.run_bind, run_underlying hu, Result.andThen_ok, run_boundsM n c hl hh hm h0 h1 h2, run_sizeOf w hne, Sem.run_pure, Nat.sub_zero]
theorem RV.clip {w : World} {I : Cset} {xs : List (List Data)} {a : Option Addr} {n c c' : Nat} (h : RV w I (.lst xs) (.slice a n c)) (hc : n ≤ c') : RV w I (.lst xs) (.slice a n c') := by
 simp only [RV] at h ⊢
 obtain ⟨a', n', c0, e, e1, hnc, hh⟩ := h
 injection e with e1' e2 e3; subst e1' e2 e3
 exact ⟨_, _, _, rfl, e1, hc, hh⟩
theorem RE_single {w : World} {I : Cset} : ∀ (cs : List Data) (b o : Nat), RC w I cs b o → RE w I 1 (cs.map fun d => [d]) b o
 | [], _, _, _ => by simp only [List.map_nil, RE]
 | d :: ds, b, o, h => by
   simp only [RC] at h
   simp only [List.map_cons, RE]
   exact ⟨rfl, by simp only [RC]; exact ⟨h.1, trivial⟩, RE_single ds b (o + 1) h.2⟩
theorem run_slice_arr {P : Program} {w : World} {t e : TypeId} {m : Nat} {a : Addr} (hu : P.underlying t = some (.array m e)) (hne : kindT P e ≠ .other) (hm : 0 < m) :
 (Instr.sliceAt t (.pointer (some a)) none none none).run P w = .ok (.slice (some (a.add (0 * szT P e))) m m) w := by
 have h1 : P.arrayLen t = m := by simp [Program.arrayLen, hu]
 have h2 : P.elem t = e := by simp [Program.elem, hu]
 have := run_sliceAt_array_all (P := P) w t a (by rw [h1, h2]; exact hu)
 rw [this, h1, h2, run_sizeOf w hne]
 simp only [Result.andThen_ok, slicedAt, Nat.sub_zero]
 rw [if_neg (by omega)]
theorem lo0 {l : Int} {vlo : Option Value} (h : (vlo = none ∧ l = 0) ∨ ∃ k, vlo = some (.int k l)) (h0 : l = 0) : vlo = none ∨ ∃ k, vlo = some (.int k 0) := by
 rcases h with h | ⟨k, h⟩
 ·exact .inl h.1
 ·exact .inr ⟨k, h0 ▸ h⟩
theorem hi0 {l len : Int} {hi : Option D} {vlo : Option Value} {w : World} {I : Cset} (ho : OptOK w I β hi vlo) (hs : hi.isSome = true) (h : (vlo = none ∧ l = len) ∨ ∃ k, vlo = some (.int k l)) (h0 : l = 0) : ∃ k, vlo = some (.int k 0) := by
 rcases h with h | ⟨k, h⟩
 ·obtain ⟨h, _⟩ := h
  subst h
  cases hi with
  | none => simp at hs
  | some d => exact ho.elim
 ·exact ⟨k, h0 ▸ h⟩
theorem good_slice (S : Sim Γ st a as β w) (t : TypeId) {x : D} {lo hi mx : Option D} {vx : Value} {vlo vhi vmx : Option Value} (hx : RVD w (Im Γ β st.h w) β x vx)
 (hlo : OptOK w (Im Γ β st.h w) β lo vlo) (hhi : OptOK w (Im Γ β st.h w) β hi vhi) (hmx : OptOK w (Im Γ β st.h w) β mx vmx) (h : (evSlice Γ.toEnv st t x lo hi mx).ok st K) :
 Good Γ a as (Instr.sliceAt t vx vlo vhi vmx) w K := by
 unfold evSlice at h
 split at h
 ·-- a string
  rename_i s hk
  have hu := underlying_str (P := Γ.P) hk
  cases vmx with
  | some _ => exact hmx.elim
  | none =>
  split at h
  ·rename_i l e h1 h2
   obtain ⟨⟨p0, p1, p2⟩, hk⟩ := h
   simp only [RVD, RV] at hx
   subst hx
   have hb := run_bounds (P := Γ.P) (w := w) false (⟨s.toArray⟩ : ByteArray).size (⟨s.toArray⟩ : ByteArray).size (hlo.lo h1) (hhi.hi h2) p0 p1 p2 (Nat.le_refl _)
   refine Good.val S (v := .string ⟨((s.drop l.toNat).take (e - l).toNat).toArray⟩) ?_ (by simp only [RVD, RV]) hk
   have hx := extract_bytes s l.toNat e.toNat (by omega) (by omega)
   rw [show e.toNat - l.toNat = (e - l).toNat by omega] at hx
   simp only [Instr.sliceAt, Instr.slice, Sem.run_bind, run_underlying hu, Result.andThen_ok, Option.isSome_none, Bool.false_eq_true, if_false, Sem.run_pure, hb, hx]
  ·exact h.elim
 ·-- a list
  rename_i e xs hk
  have hu := underlying_slice (P := Γ.P) hk
  cases vmx with
  | some _ => exact hmx.elim
  | none =>
  split at h
  ·exact h.elim
  ·rename_i l e' h1 h2 hne
   have hne : kindT Γ.P e ≠ .other := fun e => hne e
   obtain ⟨⟨p0, p1, p2, p3⟩, hk⟩ := h
   have hx' : RV w (Im Γ β st.h w) (.lst xs) vx := by simpa only [RVD] using hx
   have hx2 := hx'
   simp only [RV] at hx2
   obtain ⟨ad, n, c, rfl, rfl, hnc, _⟩ := hx2
   refine Good.val S (run_slice_row hu hne (hlo.lo h1) (hhi.hi h2) p0 p1 (by omega) hnc) ?_ hk
   simp only [RVD]
   have := hx'.slice (l := l.toNat) (h := e'.toNat) p3 (by omega) (by omega)
   rwa [show e'.toNat - l.toNat = (e' - l).toNat by omega] at this ⊢
  ·exact h.elim
 ·-- a list, [0:0:0]
  rename_i e xs m hk
  have hu := underlying_slice (P := Γ.P) hk
  cases vmx with
  | none => exact hmx.elim
  | some vm =>
  split at h
  ·exact h.elim
  ·rename_i l e' k m' h1 h2 hne
   have hne : kindT Γ.P e ≠ .other := fun e => hne e
   obtain ⟨⟨ps, p0, p12⟩, hk⟩ := h
   have hx' : RV w (Im Γ β st.h w) (.lst xs) vx := by simpa only [RVD] using hx
   have hx2 := hx'
   simp only [RV] at hx2
   obtain ⟨ad, n, c, rfl, rfl, hnc, _⟩ := hx2
   have hm : ∃ k, vm = .int k m' := by
    have : RVD w (Im Γ β st.h w) β (.dat (.int k m')) vm := hmx
    simp only [RVD, RV] at this
    exact ⟨k, this⟩
   by_cases e0 : e' = 0 ∧ m' = 0
   ·obtain ⟨p1, p2⟩ := e0
    subst p2
    refine Good.val S (run_slice_row0 hu hne (lo0 (hlo.lo h1) p0) (hi0 hhi ps (hhi.hi h2) p1) hm) ?_ hk
    rw [clipD_zero]
    simp only [RVD]; exact ⟨_, rfl⟩
   ·rcases p12 with p12 | ⟨q0, q1, q2, q3⟩
    ·exact absurd p12 e0
    ·have hhi' : ∃ k, vhi = some (.int k e') := by
      rcases hhi.hi h2 with ⟨h, _⟩ | h
      ·subst h
       cases hi with
       | none => simp at ps
       | some d => exact hhi.elim
      ·exact h
     refine Good.val S (run_slice_rowM hu hne (lo0 (hlo.lo h1) p0) hhi' hm q0 q1 (by omega)) ?_ hk
     by_cases em : m' = 0
     ·exact absurd ⟨by omega, em⟩ e0
     ·rw [clipD_pos em]
      simp only [RVD]
      have := (hx'.slice (l := 0) (h := e'.toNat) q3 (by omega) (by omega)).clip (c' := m'.toNat) (by omega)
      rw [List.drop_zero, Nat.sub_zero] at this
      by_cases ec : c = 0
      ·omega
      ·rw [if_neg ec] at this
       rwa [if_neg (by omega)]
  ·exact h.elim
 ·-- a row of the machine's own
  rename_i e l o n hk
  have hu := underlying_slice (P := Γ.P) hk
  cases vmx with
  | some _ => exact hmx.elim
  | none =>
  split at h
  ·exact h.elim
  ·rename_i lo' hi' h1 h2 hne
   have hne : kindT Γ.P e ≠ .other := fun e => hne e
   split at h
   ·rename_i e' sz xs fz hf
    split at h
    ·rename_i hsz
     have hsz : sz = szT Γ.P e := hsz
     obtain ⟨⟨p0, p1, p2⟩, hk⟩ := h
     simp only [RVD] at hx
     rcases hx with ⟨hb, rfl, rfl, ad, rfl⟩ | ⟨b, c, sz', ad, hb, hle, rfl, had⟩
     ·have e1 : lo' = 0 := by omega
      have e2 : hi' = 0 := by omega
      refine Good.val S (run_slice_row hu hne (hlo.lo h1) (hhi.hi h2) p0 p1 (by omega) (Nat.le_refl _)) ?_ hk
      subst e1 e2
      simp only [RVD]
      exact .inl ⟨hb, rfl, rfl, _, rfl⟩
     ·obtain ⟨_, _, _, p4⟩ := S.heap l _ hf
      have hss : sz' = sz := by
       rcases p4 with ⟨q, _⟩ | ⟨b', cap, cur, hb', _⟩
       ·rw [hb] at q; cases q
       ·rw [hb] at hb'; injection hb'
      refine Good.val S (run_slice_row hu hne (hlo.lo h1) (hhi.hi h2) p0 p1 (by omega) (by omega)) ?_ hk
      simp only [RVD]
      refine .inr ⟨b, c, sz', if c - o = lo'.toNat then ad else Option.map (fun x => x.add (lo'.toNat * szT Γ.P e)) ad, hb, by omega, ?_, ?_⟩
      ·rw [show hi'.toNat - lo'.toNat = (hi' - lo').toNat by omega, show c - o - lo'.toNat = c - (o + lo'.toNat) by omega]
      ·by_cases ec : c - o = lo'.toNat
       ·rw [if_pos ec]
        by_cases e0 : lo'.toNat = 0
        ·rcases had with had | had
         ·left; rw [had, e0, Nat.add_zero]
         ·right; omega
        ·right; omega
       ·rw [if_neg ec]
        rcases had with had | had
        ·left
         rw [had]
         simp only [Option.map_some, Addr.add_lit, Nat.add_mul, ← hsz, hss]
        ·right; omega
    ·exact h.elim
   ·exact h.elim
  ·exact h.elim
 ·rename_i e l o n m hk
  have hu := underlying_slice (P := Γ.P) hk
  cases vmx with
  | none => exact hmx.elim
  | some vm =>
  split at h
  ·exact h.elim
  ·rename_i l' e' k m' h1 h2 hne
   have hne : kindT Γ.P e ≠ .other := fun e => hne e
   obtain ⟨⟨ps, p0, p1, p2⟩, hk⟩ := h
   have hm : ∃ k, vm = .int k 0 := by
    have : RVD w (Im Γ β st.h w) β (.dat (.int k m')) vm := hmx
    simp only [RVD, RV] at this
    exact ⟨k, p2 ▸ this⟩
   simp only [RVD] at hx
   rcases hx with ⟨hb, rfl, rfl, ad, rfl⟩ | ⟨b, c, sz', ad, hb, hle, rfl, had⟩
   ·refine Good.val S (run_slice_row0 hu hne (lo0 (hlo.lo h1) p0) (hi0 hhi ps (hhi.hi h2) p1) hm) ?_ hk
    simp only [RVD]; exact ⟨_, rfl⟩
   ·refine Good.val S (run_slice_row0 hu hne (lo0 (hlo.lo h1) p0) (hi0 hhi ps (hhi.hi h2) p1) hm) ?_ hk
    simp only [RVD]; exact ⟨_, rfl⟩
  ·exact h.elim
 ·rename_i e hk
  have hu := underlying_slice (P := Γ.P) hk
  split at h
  ·exact h.elim
  ·rename_i l h' m h1 h2 h3 hne
   have hne : kindT Γ.P e ≠ .other := fun e => hne e
   obtain ⟨⟨ps, p0, p1, p2⟩, hk⟩ := h
   simp only [RVD] at hx
   obtain ⟨ad, rfl⟩ := hx
   cases vmx with
   | none =>
     refine Good.val S (run_slice_row hu hne (hlo.lo h1) (hhi.hi h2) (by omega) (by omega) (by omega) (Nat.le_refl _)) ?_ hk
     subst p0 p1
     simp only [RVD]; exact ⟨_, rfl⟩
   | some vm =>
     have hs := hmx.isSome
     obtain ⟨k, hm⟩ := hi0 hmx hs (hmx.hi h3) p2
     refine Good.val S (run_slice_row0 hu hne (lo0 (hlo.lo h1) p0) (hi0 hhi (ps hs) (hhi.hi h2) p1) ⟨k, Option.some.inj hm⟩) ?_ hk
     simp only [RVD]; exact ⟨_, rfl⟩
  ·exact h.elim
 ·rename_i m e cs hk
  have hu := underlying_arr (P := Γ.P) hk
  cases vmx with
  | some _ => exact hmx.elim
  | none =>
  split at h
  ·exact h.elim
  ·rename_i hne
   have hne : kindT Γ.P e ≠ .other := fun e => hne e
   obtain ⟨⟨p0, p1, p2⟩, hk⟩ := h
   cases vlo with
   | some _ => exact hlo.elim
   | none =>
   cases vhi with
   | some _ => exact hhi.elim
   | none =>
   have hx' : RV w (Im Γ β st.h w) (.ptr cs) vx := by simpa only [RVD] using hx
   simp only [RV] at hx'
   obtain ⟨b, o, rfl, hc⟩ := hx'
   refine Good.val S (run_slice_arr hu hne p0) ?_ hk
   simp only [RVD, RV]
   exact ⟨_, _, _, rfl, by rw [List.length_map, p2], Nat.le_refl _, .inr ⟨b, o, 1, by simp [Addr.add_lit], by decide, RE_single cs b o hc⟩⟩
  ·exact h.elim
 ·exact h.elim
end
end Go.Proofs.YtpajpkbipagjpaaGreatDoor.Vm

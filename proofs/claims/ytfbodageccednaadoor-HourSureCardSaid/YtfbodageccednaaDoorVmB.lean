/- An abstract machine over values: what is to be shown of code, and its rules (second part). No condition. -/
import Derived.Test.YtfbodageccednaaDoorVmA
import Derived.CallsIn
import Derived.TacticsIn
import Derived.RangeFuncLeaves
import Derived.RangeFuncRecord
import Derived.OrdersIn
set_option linter.unusedVariables false
set_option linter.unusedSimpArgs false
namespace Go.Proofs.YtfbodageccednaaDoor.Vm
open Go Go.RowKit
/-! append; contracts; one operation -/
/-- The first name from n on that is not taken. -/
def freshN : Nat → Nat → List (Nat × Blk) → Nat
  | 0, n, _ => n
  | k + 1, n, h => match find h n with
    | none => n
    | some _ => freshN k (n + 1) h
def fresh (h : List (Nat × Blk)) : Nat := freshN 40 1 h
def elemT (P : Program) (t : TypeId) : Option (TypeId × Nat) :=
  match kindT P t with
  | .slice e => match P.info? e with
    | some i => match i.zero with
      | some z => if z.cells.size = i.size then if 0 < i.size then some (e, i.size) else none else none
      | none => none
    | none => none
  | _ => none
theorem elemT_ok {P : Program} {t : TypeId} {e sz : Nat} (h : elemT P t = some (e, sz)) : P.underlying t = some (.slice e) ∧ ∃ i z, P.info? e = some i ∧ i.zero = some z ∧ z.cells.size = sz ∧ i.size = sz ∧ 0 < sz ∧ i.bytes = bytesT P e := by
  unfold elemT at h
  split at h
  · rename_i e' hk
    split at h
    · rename_i i hi
      split at h
      · rename_i z hz
        split at h
        · rename_i h1
          split at h
          · rename_i h2
            simp only [Option.some.injEq, Prod.mk.injEq] at h
            obtain ⟨rfl, rfl⟩ := h
            exact ⟨underlying_slice hk, i, z, hi, hz, h1, rfl, h2, by simp [bytesT, hi]⟩
          · cases h
        · cases h
      · cases h
    · cases h
  · cases h
/-- append(x, ys...) on a row of the machine's own, or on a nil slice. -/
def evAppendRow (E : Env) (st : St) (t : TypeId) (l n : Nat) (ys : List (List Data)) : Res :=
  match elemT E.P t, find st.h l with
  | some (e, sz), some (.arr e' sz' xs fz) =>
    .req (e = e' ∧ sz = sz' ∧ n ≤ xs.length ∧ fz ≤ n ∧ st.noMark l ∧ (∀ y ∈ ys, y.length = sz) ∧ n + ys.length ≤ maxLen ∧ (n + ys.length) * bytesT E.P e ≤ 140737488355328)
      (.st (.sl l 0 (n + ys.length)) ((st.erase l).add l (.arr e' sz' (xs.take n ++ ys) fz)))
  | _, _ => .stop
def evAppend (E : Env) (st : St) (ts : List TypeId) (xs : List D) : Res :=
  match ts, xs with
  | [t, t'], [x, y] =>
    if t = t' then
      match rdD st y with
      | some ys => match x with
        | .sl l 0 n => evAppendRow E st t l n ys
        | .nilsl => match elemT E.P t with
          | some (e, sz) => .req (st.noMark (fresh st.h)) (evAppendRow E (st.add (fresh st.h) (.arr e sz [] 0)) t (fresh st.h) 0 ys)
          | none => .stop
        | _ => .stop
      | none => .stop
    else .stop
  | _, _ => .stop
section
variable {Γ : Ctx} {st : St} {a : Act} {as : List Act} {β : Nat → Pl} {w : World} {K : D → St → Prop}
theorem good_appendRow (S : Sim Γ st a as β w) (t ty : TypeId) {l n : Nat} {ys : List (List Data)} {vx vy : Value} {K : D → St → Prop} (hx : RVD w (Im Γ β st.h w) β (.sl l 0 n) vx) (hy : Rd w (Im Γ β st.h w) ys vy)
    (h : (evAppendRow Γ.toEnv st t l n ys).ok st K) : Good Γ a as (Builtin.append_ #[t, t] ty #[vx, vy]) w K := by
  unfold evAppendRow at h
  split at h
  · rename_i e sz e' sz' xs fz he hf
    obtain ⟨⟨rfl, rfl, h3, h4, h5, h7, h8, h9⟩, hk⟩ := h
    obtain ⟨g1, i, z, g2, g3, g4, g5, g6, g7⟩ := elemT_ok he
    obtain ⟨v', w', β', r1, r2, r3⟩ := S.append (l' := l) hf h3 h4 h5 h5 hx (hy.src h7) g1 g2 g3 g5 g7 g4 h8 h9
    exact ⟨v', w', β', _, _, r1, r2, r3, hk⟩
  · exact h.elim
theorem good_append (S : Sim Γ st a as β w) (ts : List TypeId) (ty : TypeId) {xs : List D} {vs : List Value} (hx : RVDs w (Im Γ β st.h w) β xs vs) (h : (evAppend Γ.toEnv st ts xs).ok st K) :
    Good Γ a as (Builtin.append_ ts.toArray ty vs.toArray) w K := by
  unfold evAppend at h
  split at h
  · rename_i t t' x y
    simp only [RVDs] at hx
    obtain ⟨vx, _, rfl, hx, vy, _, rfl, hy, rfl⟩ := hx
    split at h
    · rename_i e; subst e
      split at h
      · rename_i ys hys
        have R := S.rd hy hys
        split at h
        · exact good_appendRow S t ty hx R h
        · split at h
          · rename_i e sz he
            obtain ⟨g1, i, z, g2, g3, g4, g5, g6, g7⟩ := elemT_ok he
            obtain ⟨hm, hk⟩ := h
            have S' := S.nilin (fresh st.h) e sz g6 hm
            have hx' : RVD w (Im Γ (upd β (fresh st.h) .nil) (st.add (fresh st.h) (.arr e sz [] 0)).h w) (upd β (fresh st.h) .nil) (.sl (fresh st.h) 0 0) vx := by
              simp only [RVD] at hx
              obtain ⟨a', rfl⟩ := hx
              exact RVD.nilrow (upd_same _ _ _) a'
            have R' : Rd w (Im Γ (upd β (fresh st.h) .nil) (st.add (fresh st.h) (.arr e sz [] 0)).h w) ys vy := by
              obtain ⟨a1, n1, c1, q1, q2, q3, q4⟩ := R
              refine ⟨a1, n1, c1, q1, q2, q3, q4.imp id ?_⟩
              rintro ⟨b, o, sz', p1, p2, p3, p4⟩
              refine ⟨b, o, sz', p1, p2, p3, fun j d hj => ⟨(p4 j d hj).1, (p4 j d hj).2.imp fun u hu => ⟨hu.1, RV.keeps (Im.nilin S _ e sz g6 hm) _ _ hu.2⟩⟩⟩
            have hk2 : (evAppendRow Γ.toEnv (st.add (fresh st.h) (.arr e sz [] 0)) t (fresh st.h) 0 ys).ok (st.add (fresh st.h) (.arr e sz [] 0)) K := by
              have : ∀ (r : Res), (∃ p d s, r = .req p (.st d s) ∨ r = .stop) → r.ok st K → r.ok (st.add (fresh st.h) (.arr e sz [] 0)) K := by
                rintro r ⟨p, d, s, rfl | rfl⟩ hr <;> exact hr
              refine this _ ?_ hk
              unfold evAppendRow
              split
              · exact ⟨_, _, _, .inl rfl⟩
              · exact ⟨True, .junk, st, .inr rfl⟩
            exact good_appendRow S' t ty hx' R' hk2
          · exact h.elim
        · exact h.elim
      · exact h.elim
    · exact h.elim
  · exact h.elim
end
end Go.Proofs.YtfbodageccednaaDoor.Vm
namespace Go.Proofs.YtfbodageccednaaDoor.Vm
open Go Go.RowKit
/-! a row of bytes turned into bytes: it is read alone from there on -/
def dropL (l : Nat) : List (Nat × Blk) → List (Nat × Blk)
  | [] => []
  | x :: r => if x.1 = l then dropL l r else x :: dropL l r
theorem find_dropL (l : Nat) : ∀ (h : List (Nat × Blk)) (k : Nat) (B : Blk), find (dropL l h) k = some B → k ≠ l ∧ find h k = some B
  | [], k, B, hf => by simp [dropL, find] at hf
  | x :: r, k, B, hf => by
    unfold dropL at hf
    by_cases e : x.1 = l
    · rw [if_pos e] at hf
      obtain ⟨h1, h2⟩ := find_dropL l r k B hf
      refine ⟨h1, ?_⟩
      unfold find
      rw [if_neg (fun e2 => h1 (by rw [← e2, e]))]
      exact h2
    · rw [if_neg e] at hf
      unfold find at hf ⊢
      by_cases e2 : x.1 = k
      · rw [if_pos e2] at hf ⊢
        exact ⟨fun e3 => e (by rw [e2, e3]), hf⟩
      · rw [if_neg e2] at hf ⊢
        exact find_dropL l r k B hf
section
variable {Γ : Ctx} {st : St} {a : Act} {as : List Act} {β : Nat → Pl} {w : World} {K : D → St → Prop}
/-- A block is given away: its cells are as they were. -/
theorem Sim.marked (S : Sim Γ st a as β w) {l b c sz : Nat} {B : Blk} {w' : World} (hf : find st.h l = some B) (hb : β l = .blk b c sz) (hsize : w'.heap.size = w.heap.size)
    (hother : ∀ k, k ≠ b → w'.heap[k]? = w.heap[k]?) (hcell : ∀ b' o, w'.cell? ⟨b', o, none⟩ = w.cell? ⟨b', o, none⟩) (hbelow : Below Γ.w0.heap.size Γ.w0 w') {h' : List (Nat × Blk)} (hh : ∀ k B', find h' k = some B' → k ≠ l ∧ find st.h k = some B') :
    Sim Γ ⟨st.c, st.s, h'⟩ a as β w' ∧ Keeps w (Im Γ β st.h w) w' (Im Γ β h' w') := by
  have K : Keeps w (Im Γ β st.h w) w' (Im Γ β h' w') := by
    intro b' o h
    refine ⟨?_, hcell b' o⟩
    rcases h with h | ⟨h1, h2, h3⟩
    · exact .inl h
    · exact .inr ⟨h1, by omega, fun k B' hB' => h3 k B' (hh k B' hB').2⟩
  refine ⟨⟨hbelow, S.hJ, S.glob.keeps K, ?_, S.cur.keeps K, S.stk.keeps K, ?_⟩, K⟩
  · intro k k' B1 B2 b1 c1 c' s s' h1 h2 e1 e2
    exact S.apart k k' B1 B2 b1 c1 c' s s' (hh _ _ h1).2 (hh _ _ h2).2 e1 e2
  · intro k B' hB'
    refine (S.heap k B' (hh k B' hB').2).keep K fun b1 c1 s1 e1 => hother b1 fun e => ?_
    subst e
    exact (hh k B' hB').1 (S.apart k l B' B _ c1 c s1 sz (hh k B' hB').2 hf e1 hb)
def mkFz (a : Addr) (n : Nat) : Obj → Obj := fun
      | .cells c elem (lo, hi) => .cells c elem (if lo == hi then (a.off, a.off + n) else (min lo a.off, max hi (a.off + n)))
      | o => o
theorem freeze_heap (w : World) (a : Addr) : w.freeze a 1 = { w with heap := w.heap.modify a.block (mkFz a 1) } := by
  unfold World.freeze
  rw [if_neg (by decide)]
  rfl
theorem freeze_other (w : World) (a : Addr) (k : Nat) (h : k ≠ a.block) : (w.freeze a 1).heap[k]? = w.heap[k]? := by
  rw [freeze_heap]
  simp only [Array.getElem?_modify]
  rw [if_neg (fun e => h e.symm)]
theorem freeze_size (w : World) (a : Addr) : (w.freeze a 1).heap.size = w.heap.size := by rw [freeze_heap]; simp
theorem freeze_cell (w : World) (a : Addr) (b o : Nat) : (w.freeze a 1).cell? ⟨b, o, none⟩ = w.cell? ⟨b, o, none⟩ := by
  rw [freeze_heap]
  simp only [World.cell?, Array.getElem?_modify]
  by_cases e : a.block = b
  · rw [if_pos e]
    cases h : w.heap[b]? with
    | none => simp
    | some x => cases x <;> simp [mkFz]
  · rw [if_neg e]
theorem evBytes_sl (E : Env) (src dst : TypeId) (l o n : Nat) : evBytes E src dst (.sl l o n) = .stop := by
  unfold evBytes
  generalize kindT E.P src = k1
  generalize kindT E.P dst = k2
  cases k1 <;> cases k2 <;> rfl
/-- []byte(x) at a row of its own. -/
def evSame (E : Env) (st : St) (src dst : TypeId) (l n : Nat) : Res :=
  match kindT E.P dst, find st.h l with
  | .slice e, some (.arr e' sz xs fz) => .req (src = dst ∧ kindT E.P e = .int .u8 ∧ 0 < n ∧ n ≤ xs.length) (.st (.dat (.lst (xs.take n))) ⟨st.c, st.s, dropL l st.h⟩)
  | _, _ => .stop
theorem good_same (S : Sim Γ st a as β w) (src dst : TypeId) {l n : Nat} {vx : Value} (hx : RVD w (Im Γ β st.h w) β (.sl l 0 n) vx) (h : (evSame Γ.toEnv st src dst l n).ok st K) : Good Γ a as (convert src dst vx) w K := by
  unfold evSame at h
  split at h
  · rename_i e e' sz xs fz hd hf
    obtain ⟨⟨rfl, he, hn, hl⟩, hk⟩ := h
    have hz : frz st (.sl l 0 n) = some (.lst (xs.take n), st.setB l (.arr e' sz xs xs.length)) := by
      simp only [frz, hf]
      rw [if_pos (by omega)]; rfl
    obtain ⟨⟨S1, K1⟩, hr⟩ := frz_ok (.sl l 0 n) S hx hz
    have hf1 : find (st.setB l (.arr e' sz xs xs.length)).h l = some (.arr e' sz xs xs.length) := find_setB hf
    have hb : ∃ b c s, β l = .blk b c s := by
      obtain ⟨_, _, _, p4⟩ := S.heap l _ hf
      rcases p4 with ⟨_, q⟩ | ⟨b, c, _, q, _⟩
      · subst q; simp at hl; omega
      · exact ⟨b, c, _, q⟩
    obtain ⟨b, c, s, hb⟩ := hb
    have hr0 := hr
    simp only [RV] at hr
    obtain ⟨a0, n0, c0, rfl, hn0, hc0, hr⟩ := hr
    rcases hr with hr | ⟨b1, o1, s1, rfl, hs1, hE⟩
    · have : (xs.take n).length = 0 := by rw [hr]; rfl
      rw [List.length_take] at this; omega
    · have hbb : b1 = b := by
        simp only [RVD, hb] at hx
        rcases hx with ⟨q, _⟩ | ⟨b2, c2, s2, a2, q1, _, q2, q3⟩
        · cases q
        · injection q1 with q1 _ _
          injection q2 with q2 _ _
          rcases q3 with q3 | ⟨q3, _⟩
          · rw [← q2] at q3
            injection q3 with q3
            injection q3 with q3
            rw [q3, q1]
          · omega
      subst hbb
      have hlt := S1.lt hf1 hb
      obtain ⟨_, _, _, p4⟩ := S1.heap l _ hf1
      have hobj : ∃ cur, w.heap[b1]? = some (.cells cur e' (0, 0)) := by
        rcases p4 with ⟨q, _⟩ | ⟨b3, c3, cur, q, _, q2, _⟩
        · rw [hb] at q; cases q
        · rw [hb] at q; injection q with q _ _; subst q; exact ⟨cur, q2⟩
      obtain ⟨cur, hobj⟩ := hobj
      have hsh : w.shape? b1 = some (e', cur.size) := by unfold World.shape?; rw [hobj]
      have hne0 : kindT Γ.P src ≠ .other := by rw [hd]; simp
      have hrun : (convert src src (.slice (some ⟨b1, o1, none⟩) n0 c0)).run Γ.P w = .ok (.slice (some ⟨b1, o1, none⟩) n0 c0) (w.freeze ⟨b1, cur.size, none⟩ 1) := by
        simp [convert, run_underlying (underlying_slice hd), run_underlying (underlying_int he), markStringish, hsh]
      have hbel : Below Γ.w0.heap.size Γ.w0 (w.freeze ⟨b1, cur.size, none⟩ 1) := by
        have hB := S1.below
        refine ⟨?_, ?_, ?_, ?_, fun k hk => ?_⟩
        · rw [freeze_heap]; exact hB.os
        · rw [freeze_heap]; exact hB.tape
        · rw [freeze_heap]; exact hB.output
        · rw [freeze_size]; exact hB.size
        · rw [freeze_other _ _ _ (by simp only; omega)]; exact hB.block k hk
      obtain ⟨S2, K2⟩ := S1.marked hf1 hb (freeze_size w ⟨b1, cur.size, none⟩) (fun k hk => freeze_other w ⟨b1, cur.size, none⟩ k hk) (fun b' o => freeze_cell w ⟨b1, cur.size, none⟩ b' o) hbel (h' := dropL l st.h) (fun k B' hB' => by
        obtain ⟨g1, g2⟩ := find_dropL l _ k B' hB'
        refine ⟨g1, ?_⟩
        simp only [St.setB, find_hSet]
        rw [if_neg g1]; exact g2)
      exact ⟨_, _, β, _, ⟨st.c, st.s, dropL l st.h⟩, hrun, S2, RVD.keeps K2 (.dat _) _ (by simpa [RVD] using hr0), hk⟩
  · exact h.elim
end
attribute [go_sem] dropL evSame
end Go.Proofs.YtfbodageccednaaDoor.Vm
namespace Go.Proofs.YtfbodageccednaaDoor.Vm
open Go Go.RowKit
/-! ### Functions that only compute -/
def Fw (ρ : Option Nat) : Fence := { Fence.wide with round := ρ }
theorem Fw_fn (ρ : Option Nat) (f : FuncId) : (Fw ρ).fn f := trivial
structure PFn where
  pre : List Data → Prop
  res : List Data → List Data
abbrev Fns := Nat → Option PFn
def retD : List Data → D
  | [d] => .dat d
  | ds => .tup (ds.map .dat)
def callable (P : Program) (f : Nat) : Bool := match P.funcs[f]? with
  | some fn => fn.name != "runtime.NumGoroutine" && fn.body.isSome
  | none => false
def Fresh (J : Cset) (w w' : World) : Cset := fun b o => J b o ∨ (w.heap.size ≤ b ∧ b < w'.heap.size)
def Pure (E : Env) (f : Nat) (p : PFn) : Prop := ∀ (w : World) (J : Cset) (args : Array Value) (ds : List Data), (∀ b o, J b o → b < w.heap.size) → Glob E w J → RVs w J ds args.toList → p.pre ds →
  CallsIn (Fw none) 0 E.P f args w fun e w' => ∃ v, e = .returned v ∧ Below w.heap.size w w' ∧ RVD w' (Fresh J w w') (fun _ => .nil) (retD (p.res ds)) v
def Sound (E : Env) (Φ : Fns) : Prop := ∀ f p, Φ f = some p → callable E.P f = true ∧ Pure E f p
theorem RVDs_dat_beta {w : World} {I : Cset} {β β' : Nat → Pl} : ∀ {ds : List Data} {vs : List Value}, RVDs w I β (ds.map .dat) vs → RVDs w I β' (ds.map .dat) vs
  | [], vs, h => h
  | d :: ds, vs, h => by
    simp only [List.map_cons, RVDs] at h ⊢
    obtain ⟨v, r, rfl, h1, h2⟩ := h
    exact ⟨v, r, rfl, h1, RVDs_dat_beta h2⟩
theorem retD_beta {w : World} {I : Cset} {β β' : Nat → Pl} {ds : List Data} {v : Value} (h : RVD w I β (retD ds) v) : RVD w I β' (retD ds) v := by
  unfold retD at h ⊢
  split at h
  · exact h
  · simp only [RVD] at h ⊢
    obtain ⟨vs, rfl, h⟩ := h
    exact ⟨vs, rfl, RVDs_dat_beta h⟩
/-! ### One operation -/
inductive Ans where
  | go (d : D) (s : St)
  | skip (s : St)
  | req (p : Prop) (r : Ans)
  | all (q : Bool → Prop) (f : Bool → D)
  | split (c : Bool) (x y : D)
  | call (g : Nat) (ds : List D)
  | yield (l : Nat) (ds : List D)
  | stop
def Res.ans (st : St) : Res → Ans
  | .val d => .go d st
  | .st d s => .go d s
  | .req p r => .req p (r.ans st)
  | .stop => .stop
def Res2.ans (st : St) : Res2 → Ans
  | .val d => .go d st
  | .req p d => .req p (.go d st)
  | .all q f => .all q f
  | .stop => .stop
def ResU.ans : ResU → Ans
  | .st s => .skip s
  | .req p r => .req p r.ans
  | .stop => .stop
def isC : Operand → Bool
  | .const _ => true
  | _ => false
def D.isNili : D → Bool
  | .dat .nili => true
  | _ => false
def D.isAgg : D → Bool
  | .dat (.agg _) => true
  | .agg _ => true
  | _ => false
def isNilC : Operand → Bool
  | .const (.slice none 0 0) => true
  | _ => false
def evEq (E : Env) (op : BinOp) (t : TypeId) (x y : Operand) (dx dy : D) : Res2 :=
  if isNilC y then evNil E.P op t dx
  else if dx.one then
    if dx.isNili && dy.isNili && !(isC x || isC y) then .stop else evBin E op t dx dy
  else if dx.isAgg && dy.isAgg then evBinS E op t dx dy else .stop
def evNilCheck : D → Bool
  | .ref _ _ => true
  | .eref _ _ _ => true
  | .dat (.ptr _) => true
  | .dat (.iface _ _) => true
  | .dat (.fn (.func _)) => true
  | .fn (.func _) _ _ => true
  | _ => false
def evPick (E : Env) (st : St) (c x y : D) : Ans :=
  match c with
  | .dat (.bool b) => .split b x y
  | _ => .stop
def evIface (E : Env) (st : St) (t : TypeId) (x : D) : Ans :=
  match kindT E.P t, x with
  | .iface, _ => .stop
  | .other, _ => .stop
  | _, .dat d => .go (.dat (.iface t d)) st
  | _, _ => .stop
def evExtract (st : St) (x : D) (i : Nat) : Ans :=
  match x with
  | .tup cs => match cs[i]? with
    | some d => .go d st
    | none => .stop
  | _ => .stop
def evBuiltin (E : Env) (st : St) (b : Builtin) (ts : List TypeId) (xs : List D) : Ans :=
  match b, ts, xs with
  | .len, [t], [x] => (evLen E.P t x).ans st
  | .max, _, [x, y] => (evMax x y).ans st
  | .min, _, [x, y] => (evMin x y).ans st
  | .append, ts, xs => (evAppend E st ts xs).ans st
  | _, _, _ => .stop
def evGo (E : Env) (Φ : Fns) (st : St) (g : Nat) (ds : List D) : Ans :=
  match Φ g with
  | some p => match frzs st ds with
    | some (xs, st') => .req (p.pre xs) (.go (retD (p.res xs)) st')
    | none => .stop
  | none => .req (callable E.P g = true) (.call g ds)
def evFn (E : Env) (Φ : Fns) (st : St) (f : D) (xs : List D) : Ans :=
  match f with
  | .dat (.fn (.func g)) => evGo E Φ st g xs
  | .fn (.func g) ys zs => evGo E Φ st g (ys ++ xs ++ zs)
  | .yld l => .yield l xs
  | _ => .stop
def evOs (E : Env) (st : St) : List Operand → List D
  | [] => []
  | x :: r => evO E st x :: evOs E st r
def evCall (E : Env) (Φ : Fns) (st : St) (c : Call) : Ans :=
  match c.callee with
  | .builtin b => evBuiltin E st b c.argTypes.toList (evOs E st c.args.toList)
  | .value f => evFn E Φ st (evO E st f) (evOs E st c.args.toList)
  | .invoke _ _ => .stop
def evConvert (E : Env) (st : St) (src dst : TypeId) (x : D) : Ans :=
  match kindT E.P dst with
  | .slice _ => match x with
    | .sl l 0 n => (evSame E st src dst l n).ans st
    | x => (evBytes E src dst x).ans st
  | _ => (evConv E.P st src dst x).ans st
def posT (P : Program) (t : TypeId) : Bool := (kindT P t).agg || decide (0 < szT P t)
def ev (E : Env) (Φ : Fns) (st : St) : Op → Ans
  | .move x => .go (evO E st x) st
  | .assign x => .go (evO E st x) st
  | .pick c x y => evPick E st (evO E st c) (evO E st x) (evO E st y)
  | .alloc t => (evAlloc E st (fresh st.h) t).ans st
  | .box t x => (evBox E st (fresh st.h) (evO E st x)).ans st
  | .build t ps => (evBuild E st t ps.toList).ans st
  | .buildSlice t n ps => (evBuildSlice E st (fresh st.h) t n ps.toList).ans st
  | .load t x => .req (posT E.P t = true) ((evLoad E st t (evO E st x)).ans st)
  | .store t x y => (evStore E st t (evO E st x) (evO E st y)).ans
  | .nilCheck x => if evNilCheck (evO E st x) then .go (evO E st x) st else .stop
  | .binOp op t x y _ => (evEq E op t x y (evO E st x) (evO E st y)).ans st
  | .unOp op _ x => (evUn op (evO E st x)).ans st
  | .convert src dst x => evConvert E st src dst (evO E st x)
  | .makeInterface t x => evIface E st t (evO E st x)
  | .makeFunc f xs ys => .go (.fn f (evOs E st xs.toList) (evOs E st ys.toList)) st
  | .makeSlice t x y => (evMake E st (fresh st.h) t (evO E st x) (evO E st y)).ans st
  | .slice t x lo hi mx => (evSlice E st t (evO E st x) (lo.map (evO E st)) (hi.map (evO E st)) (mx.map (evO E st))).ans st
  | .fieldAddr t x f => (evFieldAddr E t (evO E st x) f).ans st
  | .field t x f => (evField E t (evO E st x) f).ans st
  | .indexAddr t x i => (evIndexAddr E st t (evO E st x) (evO E st i)).ans st
  | .index t x i => (evIndex E t (evO E st x) (evO E st i)).ans st
  | .extract x i => evExtract st (evO E st x) i
  | .call c => evCall E Φ st c
  | _ => .stop
/-- What is asked behind an operation. -/
structure Behind where
  n : D → St → Prop
  s : St → Prop
  c : Nat → List D → Prop
  y : Nat → List D → Prop
def Ans.ok (st : St) (B : Behind) : Ans → Prop
  | .go d s => B.n d s
  | .skip s => B.s s
  | .req p r => p ∧ r.ok st B
  | .all q f => ∀ b, q b → B.n (f b) st
  | .split c x y => (c = true → B.n x st) ∧ (c = false → B.n y st)
  | .call g ds => B.c g ds
  | .yield l ds => B.y l ds
  | .stop => False
theorem Res.ans_ok {st : St} {B : Behind} : ∀ {r : Res}, (r.ans st).ok st B → r.ok st B.n
  | .val d, h => h
  | .st d s, h => h
  | .req p r, h => ⟨h.1, Res.ans_ok (r := r) h.2⟩
  | .stop, h => h
theorem Res2.ans_ok {st : St} {B : Behind} : ∀ {r : Res2}, (r.ans st).ok st B → r.ok fun d => B.n d st
  | .val d, h => h
  | .req p d, h => h
  | .all q f, h => h
  | .stop, h => h
theorem ResU.ans_ok {st : St} {B : Behind} : ∀ {r : ResU}, (r.ans).ok st B → r.ok B.s
  | .st s, h => h
  | .req p r, h => ⟨h.1, ResU.ans_ok (r := r) h.2⟩
  | .stop, h => h
end Go.Proofs.YtfbodageccednaaDoor.Vm
namespace Go.Proofs.YtfbodageccednaaDoor.Vm
open Go Go.RowKit
section
variable {Γ : Ctx} {st : St} {a : Act} {as : List Act} {β : Nat → Pl} {w : World} {Φ : Fns} {ρ : Option Nat} {B : Behind} {next : Act → World → Prop} {Q : Exit → Act → World → Prop}
theorem upon_good {o : Oper} {K : D → St → Prop} {s : Sem Value} (h : Good Γ a as s w K)
    (hN : ∀ v d st' β' w', Sim Γ st' a as β' w' → RVD w' (Im Γ β' st'.h w') β' d v → K d st' → next (a.put o.dst v) w') :
    o.uponIn (Fw ρ) 0 Γ.P a next Q (Sem.run Γ.P (do pure (.value (← s)) : Sem Next) w) := by
  obtain ⟨v, w', β', d, st', hr, hs, hv, hk⟩ := h
  rw [Sem.run_bind, hr]
  exact hN v d st' β' w' hs hv hk
theorem upon_goodU {o : Oper} {K : St → Prop} {s : Sem Unit} (h : GoodU Γ a as β s w K)
    (hS : ∀ st' w', Sim Γ st' a as β w' → K st' → next (a.put o.dst undef) w') :
    o.uponIn (Fw ρ) 0 Γ.P a next Q (Sem.run Γ.P (do s; pure .skip : Sem Next) w) := by
  obtain ⟨w', st', hr, hs, hk⟩ := h
  rw [Sem.run_bind, hr]
  exact hS st' w' hs hk
theorem Good.of2 (S : Sim Γ st a as β w) {s : Sem Value} {K : D → St → Prop} (h : Good2 Γ.P w (Im Γ β st.h w) β s fun d => K d st) : Good Γ a as s w K := by
  obtain ⟨v, d, hr, hv, hk⟩ := h
  exact ⟨v, w, β, d, st, hr, S, hv, hk⟩
theorem evOs_ok (S : Sim Γ st a as β w) : ∀ (xs : List Operand), RVDs w (Im Γ β st.h w) β (evOs Γ.toEnv st xs) (xs.map a.eval)
  | [] => rfl
  | x :: r => by
    simp only [evOs, List.map_cons, RVDs]
    exact ⟨_, _, rfl, S.eval x, evOs_ok S r⟩
theorem upon_pure {o : Oper} (S : Sim Γ st a as β w) {d : D} {v : Value} (hd : RVD w (Im Γ β st.h w) β d v) (hk : B.n d st)
    (hN : ∀ v d st' β' w', Sim Γ st' a as β' w' → RVD w' (Im Γ β' st'.h w') β' d v → B.n d st' → next (a.put o.dst v) w') : next (a.put o.dst v) w := hN v d st β w S hd hk
theorem iface_ok {P : Program} {w : World} {t : TypeId} {x : Value} (h1 : kindT P t ≠ .iface) (h2 : kindT P t ≠ .other) : (Instr.makeInterface t x).run P w = .ok (.iface t x) w := by
  obtain ⟨d, hd⟩ := underlying_some h2
  have : ∀ ms, d ≠ .interface ms := by
    rintro ms rfl
    exact h1 (by simp [kindT, hd])
  simp only [Instr.makeInterface, Sem.run_bind, run_underlying hd, Result.andThen_ok]
  cases d <;> first | rfl | exact absurd rfl (this _)
theorem eqGuard_free {P : Program} {w : World} (op : BinOp) (t : TypeId) (x y : Operand) {vx vy : Value} (h1 : vx = .nilIface → vy = .nilIface → isC x || isC y) (h2 : ∀ p q, vx = .agg p → vy = .agg q → P.eqGuardType P.depth t = false) :
    (eqGuard op t x y vx vy).run P w = .ok () w := by
  have key : ∀ op', op' = .eql ∨ op' = .neq → (eqGuard op' t x y vx vy).run P w = .ok () w := by
    intro op' ho
    rcases ho with rfl | rfl <;>
    · cases vx <;> cases vy <;> try rfl
      · have := h1 rfl rfl
        cases x <;> cases y <;> simp [isC] at this <;> rfl
      · rename_i p q
        simp [eqGuard, h2 p q rfl rfl, go_sem]
  cases op <;> first | exact key _ (.inl rfl) | exact key _ (.inr rfl) | rfl
end
end Go.Proofs.YtfbodageccednaaDoor.Vm
namespace Go.Proofs.YtfbodageccednaaDoor.Vm
open Go Go.RowKit
section
variable {Γ : Ctx} {st : St} {a : Act} {as : List Act} {β : Nat → Pl} {w : World} {Φ : Fns} {ρ : Option Nat} {B : Behind} {next : Act → World → Prop} {Q : Exit → Act → World → Prop}
theorem D.agg_ok {w : World} {I : Cset} {d : D} {v : Value} (h : RVD w I β d v) (ha : d.isAgg = true) : ∃ p, v = .agg p := by
  unfold D.isAgg at ha
  split at ha
  · simp only [RVD, RV] at h; exact h.imp fun p hp => hp.1
  · simp only [RVD] at h; exact h.imp fun p hp => hp.1
  · cases ha
theorem D.nili_ok {w : World} {I : Cset} {d : D} (h : RVD w I β d .nilIface) (ho : d.one = true) : d.isNili = true := by
  cases d with
  | dat d => cases d <;> simp_all [RVD, RV, D.isNili]
  | junk => simp [D.one] at ho
  | _ => simp_all [RVD]
theorem isNilC_ok {y : Operand} (h : isNilC y = true) : y = .const (.slice none 0 0) := by
  unfold isNilC at h
  split at h
  · rfl
  · cases h
theorem good_eq (S : Sim Γ st a as β w) (op : BinOp) (t : TypeId) (x y : Operand) {K : D → Prop} (h : (evEq Γ.toEnv op t x y (evO Γ.toEnv st x) (evO Γ.toEnv st y)).ok K) :
    Good2 Γ.P w (Im Γ β st.h w) β (do eqGuard op t x y (a.eval x) (a.eval y); binOp op t (a.eval x) (a.eval y)) K := by
  have hx := S.eval x
  have hy := S.eval y
  have fin : (eqGuard op t x y (a.eval x) (a.eval y)).run Γ.P w = .ok () w → Good2 Γ.P w (Im Γ β st.h w) β (binOp op t (a.eval x) (a.eval y)) K →
      Good2 Γ.P w (Im Γ β st.h w) β (do eqGuard op t x y (a.eval x) (a.eval y); binOp op t (a.eval x) (a.eval y)) K := by
    rintro h1 ⟨v, d, h2, h3, h4⟩
    exact ⟨v, d, by rw [Sem.run_bind, h1]; exact h2, h3, h4⟩
  unfold evEq at h
  split at h
  · rename_i hn
    have := isNilC_ok hn
    subst this
    exact fin (eqGuard_free op t _ _ (fun _ e => by cases e) fun _ _ _ e => by cases e) (good_nil op t hx h)
  · split at h
    · rename_i ho
      split at h
      · exact h.elim
      · rename_i hg
        refine fin (eqGuard_free op t _ _ (fun e1 e2 => ?_) fun p q e1 _ => ?_) (good_bin op t hx hy h)
        · rw [e1] at hx
          rw [e2] at hy
          have n1 := D.nili_ok hx ho
          cases hC : (isC x || isC y) with
          | true => rfl
          | false =>
            exfalso
            have hny : (evO Γ.toEnv st y).isNili = true := by
              simp only [D.isNili] at n1
              split at n1
              · rename_i hxe
                rw [hxe] at h
                cases hye : evO Γ.toEnv st y with
                | dat d =>
                  rw [hye] at hy
                  cases d <;> simp_all [RVD, RV, D.isNili]
                | junk => rw [hye] at h; cases op <;> simp [evBin, Res2.ok] at h
                | _ => rw [hye] at hy; simp_all [RVD]
              · cases n1
            exact hg (by simp [n1, hny, hC])
        · have := hx
          rw [e1] at this
          have := D.one_ok this ho
          simp [Value.oneCell'] at this
    · split at h
      · rename_i hag
        simp only [Bool.and_eq_true] at hag
        obtain ⟨p, hp⟩ := D.agg_ok hx hag.1
        obtain ⟨q, hq⟩ := D.agg_ok hy hag.2
        have hs : Γ.P.eqGuardType Γ.P.depth t = false := by
          unfold evBinS at h
          split at h
          · rename_i hs
            unfold structEqOK at hs
            split at hs
            · simp only [Bool.and_eq_true, Bool.not_eq_true'] at hs
              exact hs.2
            · cases hs
          · exact h.elim
        exact fin (eqGuard_free op t _ _ (fun e1 _ => by rw [hp] at e1; cases e1) fun _ _ _ _ => hs) (good_binS op t hx hy h ⟨⟨p, hp⟩, q, hq⟩).1
      · exact h.elim
theorem evNilCheck_ok {P : Program} {w : World} {I : Cset} {d : D} {o : Oper} {x : Operand} {ρ : Operand → Value} (h : RVD w I β d (ρ x)) (hc : evNilCheck d = true) (ho : o.op = .nilCheck x) : (execOp ρ o).run P w = .ok (.value (ρ x)) w := by
  have key : ∀ v, ρ x = v → (v ≠ .pointer none ∧ v ≠ .nilIface ∧ v ≠ .nilFunc ∧ ∀ n p q, v ≠ .func (.method n) p q) → (execOp ρ o).run P w = .ok (.value v) w := by
    rintro v hv ⟨h1, h2, h3, h4⟩
    unfold execOp
    rw [ho]
    simp only [hv]
    rfl
  refine key _ rfl ?_
  unfold evNilCheck at hc
  split at hc
  · simp only [RVD] at h; obtain ⟨_, _, _, _, e⟩ := h; rw [e]; simp
  · simp only [RVD] at h; obtain ⟨_, _, _, _, e⟩ := h; rw [e]; simp
  · simp only [RVD, RV] at h; obtain ⟨_, _, e, _⟩ := h; rw [e]; simp
  · simp only [RVD, RV] at h; obtain ⟨_, e, _⟩ := h; rw [e]; simp
  · simp only [RVD, RV] at h; rw [h]; simp
  · simp only [RVD] at h; obtain ⟨_, _, e, _⟩ := h; rw [e]; simp
  · cases hc
theorem callable_ok {P : Program} {f : Nat} (h : callable P f = true) (args : Array Value) (w : World) : (callFunc f args).run P w = .ok (.enter f args) w := by
  unfold callable at h
  split at h
  · rename_i fn hf
    simp only [Bool.and_eq_true, bne_iff_ne, ne_eq] at h
    obtain ⟨h1, h2⟩ := h
    obtain ⟨c, hc⟩ := Option.isSome_iff_exists.1 h2
    simp [callFunc, go_sem, hf, h1, hc]
  · cases h
theorem Fresh.keeps (S : Sim Γ st a as β w) {w' : World} (h : Below w.heap.size w w') : Keeps w' (Fresh (Im Γ β st.h w) w w') w' (Im Γ β st.h w') := by
  obtain ⟨S', K⟩ := S.called h
  intro b o hf
  refine ⟨?_, rfl⟩
  rcases hf with hf | ⟨h1, h2⟩
  · exact (K b o hf).1
  · refine .inr ⟨Nat.le_trans S.below.size h1, h2, fun l B hB hmu => ?_⟩
    obtain ⟨c, sz, hb⟩ := hmu.block
    have := (S.lt hB hb).1
    omega
theorem good_extract (S : Sim Γ st a as β w) {x : D} {v : Value} (hx : RVD w (Im Γ β st.h w) β x v) (i : Nat) (h : (evExtract st x i).ok st B) : Good Γ a as (Instr.extract v i) w B.n := by
  unfold evExtract at h
  split at h
  · rename_i cs
    simp only [RVD] at hx
    obtain ⟨vs, rfl, hx⟩ := hx
    split at h
    · rename_i d hd
      obtain ⟨u, hu, hr⟩ := hx.at i d hd
      have hu' : vs[i]? = some u := by simpa using hu
      exact .val S (by simp [Instr.extract, hu', go_sem]) hr h
    · exact h.elim
  · exact h.elim
theorem good_iface (S : Sim Γ st a as β w) (t : TypeId) {x : D} {v : Value} (hx : RVD w (Im Γ β st.h w) β x v) (h : (evIface Γ.toEnv st t x).ok st B) : Good Γ a as (Instr.makeInterface t v) w B.n := by
  unfold evIface at h
  split at h
  · exact h.elim
  · exact h.elim
  · rename_i d h1 h2
    refine .val S (iface_ok (fun e => h1 e) fun e => h2 e) ?_ h
    simp only [RVD, RV] at hx ⊢
    exact ⟨v, rfl, hx⟩
  · exact h.elim
end
end Go.Proofs.YtfbodageccednaaDoor.Vm
namespace Go.Proofs.YtfbodageccednaaDoor.Vm
open Go Go.RowKit
section
variable {Γ : Ctx} {st : St} {a : Act} {as : List Act} {β : Nat → Pl} {w : World} {Φ : Fns} {ρ : Option Nat} {B : Behind} {next : Act → World → Prop} {Q : Exit → Act → World → Prop}
theorem upon_val {o : Oper} {v : Value} {d : D} {st' : St} {β' : Nat → Pl} {w' : World} (hr : (execOp a.eval o).run Γ.P w = .ok (.value v) w') (S : Sim Γ st' a as β' w') (hd : RVD w' (Im Γ β' st'.h w') β' d v) (hk : B.n d st')
    (hN : ∀ v d st' β' w', Sim Γ st' a as β' w' → RVD w' (Im Γ β' st'.h w') β' d v → B.n d st' → next (a.put o.dst v) w') : o.uponIn (Fw ρ) 0 Γ.P a next Q ((execOp a.eval o).run Γ.P w) := by
  rw [hr]; exact hN v d st' β' w' S hd hk
theorem Oper.uponIn_call {F : Fence} {n : Nat} {P : Program} {o : Oper} {a : Act} {next : Act → World → Prop} {Q : Exit → Act → World → Prop} {g : Nat} {args : Array Value} {w : World} {R : Result Next} (hR : R = .ok (.enter g args) w) (hd : F.depth = none)
    (h : CallsIn F 0 P g args w fun e w'' => ∃ v, e = .returned v ∧ next (a.put o.dst v) w'') : o.uponIn F 0 P a next Q R := by
  subst hR
  refine ⟨fun e => by simp [hd] at e, h.mono fun e w'' he => ?_⟩
  obtain ⟨v, rfl, hn⟩ := he
  exact hn
theorem invoke_fn {P : Program} {w : World} {c : Call} {f : Operand} {ρ : Operand → Value} {ty : TypeId} (hc : c.callee = .value f) {g : Nat} {ys zs : Array Value} (hf : ρ f = .func (.func g) ys zs) (hcall : callable P g = true) :
    (do let d ← resolve ρ c ty; invoke d.target d.args : Sem Next).run P w = .ok (.enter g (ys ++ c.args.map ρ ++ zs)) w := by
  simp only [resolve, hc, hf, Deferred.ofValue, Sem.run_bind, Sem.run_pure, Result.andThen_ok, invoke]
  exact callable_ok hcall _ w
theorem RVDs.app3 {w : World} {I : Cset} {xs ys zs : List D} {vx vy vz : List Value} (h1 : RVDs w I β xs vx) (h2 : RVDs w I β ys vy) (h3 : RVDs w I β zs vz) : RVDs w I β (xs ++ ys ++ zs) (vx ++ vy ++ vz) := (h1.append h2).append h3
theorem call_ok (S : Sim Γ st a as β w) (hΦ : Sound Γ.toEnv Φ) {o : Oper} {g : Nat} {ds : List D} (h : (evGo Γ.toEnv Φ st g ds).ok st B)
    (hN : ∀ v d st' β' w', Sim Γ st' a as β' w' → RVD w' (Im Γ β' st'.h w') β' d v → B.n d st' → next (a.put o.dst v) w')
    (hC : ∀ g ds args, RVDs w (Im Γ β st.h w) β ds args.toList → B.c g ds → CallsIn (Fw none) 0 Γ.P g args w fun e w'' => ∃ v, e = .returned v ∧ next (a.put o.dst v) w'') :
    callable Γ.P g = true ∧ ∀ args, RVDs w (Im Γ β st.h w) β ds args.toList → CallsIn (Fw none) 0 Γ.P g args w fun e w'' => ∃ v, e = .returned v ∧ next (a.put o.dst v) w'' := by
  unfold evGo at h
  split at h
  · rename_i p hp
    obtain ⟨hc, hpure⟩ := hΦ g p hp
    refine ⟨hc, fun args hargs => ?_⟩
    split at h
    · rename_i xs st' hfz
      obtain ⟨hpre, hk⟩ := h
      obtain ⟨⟨S', K'⟩, hrv⟩ := frzs_ok ds S hargs hfz
      have hI : ∀ b o, Im Γ β st'.h w b o → b < w.heap.size := by
        intro b o hi
        rcases hi with hi | hi
        · exact Nat.lt_of_lt_of_le (S'.hJ b o hi) S'.below.size
        · exact hi.2.1
      refine (hpure w _ args xs hI S'.glob hrv hpre).mono fun e w'' he => ?_
      obtain ⟨v, rfl, hb, hv⟩ := he
      obtain ⟨S2, _⟩ := S'.called hb
      exact ⟨v, rfl, hN v _ st' β w'' S2 (RVD.keeps (Fresh.keeps S' hb) _ _ (retD_beta hv)) hk⟩
    · exact h.elim
  · obtain ⟨hc, hk⟩ := h
    exact ⟨hc, fun args hargs => hC g ds args hargs hk⟩
theorem evOs_arr (S : Sim Γ st a as β w) (xs : Array Operand) : RVDs w (Im Γ β st.h w) β (evOs Γ.toEnv st xs.toList) (xs.map a.eval).toList := by
  have := evOs_ok S xs.toList
  simpa using this
theorem ev_ok (S : Sim Γ st a as β w) (hΦ : Sound Γ.toEnv Φ) (o : Oper) (h : (ev Γ.toEnv Φ st o.op).ok st B)
    (hN : ∀ v d st' β' w', Sim Γ st' a as β' w' → RVD w' (Im Γ β' st'.h w') β' d v → B.n d st' → next (a.put o.dst v) w')
    (hS : ∀ st' β' w', Sim Γ st' a as β' w' → B.s st' → next (a.put o.dst undef) w')
    (hC : ∀ g ds args, RVDs w (Im Γ β st.h w) β ds args.toList → B.c g ds → CallsIn (Fw none) 0 Γ.P g args w fun e w'' => ∃ v, e = .returned v ∧ next (a.put o.dst v) w'')
    (hY : ∀ l ds args b c sz, β l = .blk b c sz → RVDs w (Im Γ β st.h w) β ds args.toList → B.y l ds → o.uponIn (Fw ρ) 0 Γ.P a next Q ((Instr.yield b args).run Γ.P w)) :
    o.wpIn (Fw ρ) 0 Γ.P a w next Q := by
  refine ⟨fun _ _ => trivial, ?_⟩
  have hnd : ∀ c, o.op ≠ .defer c := by
    intro c e
    rw [e] at h
    exact h
  rw [Oper.semAt_eq _ _ _ hnd]
  have good : ∀ {s : Sem Value}, (execOp a.eval o).run Γ.P w = Sem.run Γ.P (do pure (.value (← s)) : Sem Next) w → Good Γ a as s w B.n → o.uponIn (Fw ρ) 0 Γ.P a next Q ((execOp a.eval o).run Γ.P w) := by
    intro s e hg
    rw [e]
    exact upon_good hg hN
  have ex : ∀ {p : Op}, o.op = p → ∃ o' : Oper, o' = { o with op := p } ∧ execOp a.eval o = execOp a.eval o' := by
    intro p e
    refine ⟨_, rfl, ?_⟩
    rw [← e]
  cases hop : o.op with
  | move x =>
    rw [hop] at h
    exact upon_val (B := B) (d := evO Γ.toEnv st x) (v := a.eval x) (by unfold execOp; rw [hop]; rfl) S (S.eval x) h hN
  | assign x =>
    rw [hop] at h
    exact upon_val (B := B) (d := evO Γ.toEnv st x) (v := a.eval x) (by unfold execOp; rw [hop]; rfl) S (S.eval x) h hN
  | pick c x y =>
    rw [hop] at h
    have hc := S.eval c
    simp only [ev, evPick] at h
    split at h
    · rename_i b hb
      rw [hb] at hc
      simp only [RVD, RV] at hc
      cases b with
      | true => exact upon_val (B := B) (d := evO Γ.toEnv st x) (v := a.eval x) (by unfold execOp; rw [hop]; simp only [hc, asBool]; rfl) S (S.eval x) (h.1 rfl) hN
      | false => exact upon_val (B := B) (d := evO Γ.toEnv st y) (v := a.eval y) (by unfold execOp; rw [hop]; simp only [hc, asBool]; rfl) S (S.eval y) (h.2 rfl) hN
    · exact h.elim
  | alloc t =>
    rw [hop] at h
    exact good (by unfold execOp; rw [hop]) (good_alloc S _ t (Res.ans_ok h))
  | box t x =>
    rw [hop] at h
    exact good (by unfold execOp; rw [hop]) (good_box S _ t (S.eval x) (Res.ans_ok h))
  | build t ps =>
    rw [hop] at h
    refine good (s := Instr.build t (ps.map fun p => (p.1, a.eval p.2))) (by unfold execOp; rw [hop]) ?_
    have e : (ps.map fun p => (p.1, a.eval p.2)) = (ps.toList.map fun p => (p.1, a.eval p.2)).toArray := by rw [← Array.toList_map]
    rw [e]
    exact good_build S t ps.toList (Res.ans_ok h)
  | buildSlice t n ps =>
    rw [hop] at h
    refine good (s := Instr.buildSlice t n (ps.map fun p => (p.1, a.eval p.2))) (by unfold execOp; rw [hop]) ?_
    have e : (ps.map fun p => (p.1, a.eval p.2)) = (ps.toList.map fun p => (p.1, a.eval p.2)).toArray := by rw [← Array.toList_map]
    rw [e]
    exact good_buildSlice S (fresh st.h) t n ps.toList (Res.ans_ok h)
  | load t x =>
    rw [hop] at h
    obtain ⟨hp, h⟩ := h
    refine good (by unfold execOp; rw [hop]) (good_load S t (fun ha => ?_) (S.eval x) (Res.ans_ok h))
    simpa [posT, ha] using hp
  | store t x y =>
    rw [hop] at h
    have e : (execOp a.eval o).run Γ.P w = Sem.run Γ.P (do Instr.storeAt t (a.eval x) (a.eval y); pure .skip : Sem Next) w := by unfold execOp; rw [hop]
    rw [e]
    exact upon_goodU (good_store S t (S.eval x) (S.eval y) (ResU.ans_ok h)) fun st' w' => hS st' β w'
  | nilCheck x =>
    rw [hop] at h
    simp only [ev] at h
    split at h
    · rename_i hc
      exact upon_val (B := B) (evNilCheck_ok (S.eval x) hc hop) S (S.eval x) h hN
    · exact h.elim
  | binOp op t x y yt =>
    rw [hop] at h
    exact good (by unfold execOp; rw [hop]) (Good.of2 S (good_eq S op t x y (Res2.ans_ok h)))
  | unOp op t x =>
    rw [hop] at h
    exact good (by unfold execOp; rw [hop]) (Good.of2 S (good_un op (S.eval x) (Res2.ans_ok h)))
  | convert src dst x =>
    rw [hop] at h
    simp only [ev, evConvert] at h
    refine good (by unfold execOp; rw [hop]) ?_
    split at h
    · split at h
      · rename_i e0
        have hv := S.eval x
        rw [e0] at hv
        exact good_same S src dst hv (Res.ans_ok h)
      · exact good_bytes S src dst (S.eval x) (Res.ans_ok h)
    · exact Good.of2 S (good_conv S src dst (S.eval x) (Res2.ans_ok h))
  | makeInterface t x =>
    rw [hop] at h
    exact good (by unfold execOp; rw [hop]) (good_iface S t (S.eval x) h)
  | makeFunc f xs ys =>
    rw [hop] at h
    refine good (by unfold execOp; rw [hop]) (.val (v := .func f (xs.map a.eval) (ys.map a.eval)) S rfl ?_ h)
    simp only [RVD]
    exact ⟨_, _, rfl, evOs_arr S xs, evOs_arr S ys⟩
  | makeSlice t x y =>
    rw [hop] at h
    exact good (by unfold execOp; rw [hop]) (good_make S _ t (S.eval x) (S.eval y) (Res.ans_ok h))
  | slice t x lo hi mx =>
    rw [hop] at h
    have opt : ∀ (z : Option Operand), OptOK w (Im Γ β st.h w) β (z.map (evO Γ.toEnv st)) (z.map a.eval) := by
      intro z
      cases z with
      | none => trivial
      | some z => exact S.eval z
    exact good (by unfold execOp; rw [hop]) (good_slice S t (S.eval x) (opt lo) (opt hi) (opt mx) (Res.ans_ok h))
  | fieldAddr t x f =>
    rw [hop] at h
    exact good (by unfold execOp; rw [hop]) (good_fieldAddr S t f (S.eval x) (Res.ans_ok h))
  | field t x f =>
    rw [hop] at h
    exact good (by unfold execOp; rw [hop]) (good_field S t f (S.eval x) (Res.ans_ok h))
  | indexAddr t x i =>
    rw [hop] at h
    exact good (by unfold execOp; rw [hop]) (good_indexAddr S t (S.eval x) (S.eval i) (Res.ans_ok h))
  | index t x i =>
    rw [hop] at h
    exact good (by unfold execOp; rw [hop]) (good_index S t (S.eval x) (S.eval i) (Res.ans_ok h))
  | extract x i =>
    rw [hop] at h
    exact good (by unfold execOp; rw [hop]) (good_extract S (S.eval x) i h)
  | call c =>
    rw [hop] at h
    have he : execOp a.eval o = (do let d ← resolve a.eval c o.type; invoke d.target d.args : Sem Next) := by unfold execOp; rw [hop]
    rw [he]
    simp only [ev, evCall] at h
    have hargs := evOs_arr S c.args
    split at h
    · rename_i b hcal
      have hinv : ∀ {s : Sem Value}, (∀ consts, builtin b c.argTypes o.type consts (c.args.map a.eval) = (do pure (.value (← s)) : Sem Next)) → Good Γ a as s w B.n →
          o.uponIn (Fw ρ) 0 Γ.P a next Q ((do let d ← resolve a.eval c o.type; invoke d.target d.args : Sem Next).run Γ.P w) := by
        intro s hs hg
        have e3 : (do let d ← resolve a.eval c o.type; invoke d.target d.args : Sem Next).run Γ.P w = Sem.run Γ.P (do pure (.value (← s)) : Sem Next) w := by
          simp only [resolve, hcal, Sem.run_bind, Sem.run_pure, Result.andThen_ok, invoke, hs]
        rw [e3]
        exact upon_good hg hN
      generalize hvs : (c.args.map a.eval).toList = vs at hargs
      have hav : c.args.map a.eval = vs.toArray := by rw [← hvs]
      generalize hts : c.argTypes.toList = ts at h
      have hat : c.argTypes = ts.toArray := by rw [← hts]
      unfold evBuiltin at h
      split at h
      · rename_i _ _ t x hx
        rw [hx] at hargs
        simp only [RVDs] at hargs
        obtain ⟨v, _, rfl, hv, rfl⟩ := hargs
        exact hinv (fun consts => by rw [hav, hat]; rfl) (Good.of2 S (good_len t o.type hv (Res2.ans_ok h)))
      · rename_i _ _ ts' x y hx
        rw [hx] at hargs
        simp only [RVDs] at hargs
        obtain ⟨v, _, rfl, hv, u, _, rfl, hu, rfl⟩ := hargs
        exact hinv (fun consts => by rw [hav]; rfl) (Good.of2 S (good_max _ o.type hv hu (Res2.ans_ok h)))
      · rename_i _ _ ts' x y hx
        rw [hx] at hargs
        simp only [RVDs] at hargs
        obtain ⟨v, _, rfl, hv, u, _, rfl, hu, rfl⟩ := hargs
        exact hinv (fun consts => by rw [hav]; rfl) (Good.of2 S (good_min _ o.type hv hu (Res2.ans_ok h)))
      · exact hinv (fun consts => by rw [hav, hat]; rfl) (good_append S _ o.type hargs (Res.ans_ok h))
      · exact h.elim
    · rename_i f hcal
      have hf := S.eval f
      unfold evFn at h
      split at h
      · rename_i g hg
        rw [hg] at hf
        simp only [RVD, RV] at hf
        obtain ⟨hc1, hc2⟩ := call_ok S hΦ h hN hC
        refine Oper.uponIn_call (n := 0) (invoke_fn hcal hf hc1) rfl (hc2 _ ?_)
        simpa using hargs
      · rename_i g ys zs hg
        rw [hg] at hf
        simp only [RVD] at hf
        obtain ⟨vs, us, hf, h1, h2⟩ := hf
        obtain ⟨hc1, hc2⟩ := call_ok S hΦ h hN hC
        refine Oper.uponIn_call (n := 0) (invoke_fn hcal hf hc1) rfl (hc2 _ ?_)
        have := RVDs.app3 h1 hargs h2
        simpa using this
      · rename_i l hl
        rw [hl] at hf
        simp only [RVD] at hf
        obtain ⟨b, k, sz, hb, hf⟩ := hf
        have e2 : (do let d ← resolve a.eval c o.type; invoke d.target d.args : Sem Next).run Γ.P w = (Instr.yield b (c.args.map a.eval)).run Γ.P w := by
          simp only [resolve, hcal, hf, Deferred.ofValue, Sem.run_bind, Sem.run_pure, Result.andThen_ok, invoke]
          simp
        rw [e2]
        exact hY l _ _ b k sz hb hargs h
      · exact h.elim
    · exact h.elim
  | _ => rw [hop] at h; exact h.elim
end
end Go.Proofs.YtfbodageccednaaDoor.Vm
namespace Go.Proofs.YtfbodageccednaaDoor.Vm
open Go Go.RowKit
/-! ### What is to be shown of code, of a call, of a yield -/
def VC (E : Env) (ρ : Option Nat) (c : Code) (st : St) (K : Exit → St → Prop) : Prop :=
  ∀ (Γ : Ctx) (a : Act) (as : List Act) (β : Nat → Pl) (w : World), Γ.toEnv = E → Sim Γ st a as β w →
    c.wpIn (Fw (ρ.map Γ.pin)) 0 E.P (fun e a w => ∃ st' β', Sim Γ st' a as β' w ∧ K e st') a w
def Back (Γ : Ctx) (a : Act) (as : List Act) (K : D → St → Prop) : Ending → World → Prop := fun e w => ∃ v d st β, e = .returned v ∧ Sim Γ st a as β w ∧ RVD w (Im Γ β st.h w) β d v ∧ K d st
def VCcall (E : Env) (g : Nat) (ds : List D) (st : St) (K : D → St → Prop) : Prop :=
  ∀ (Γ : Ctx) (a : Act) (as : List Act) (β : Nat → Pl) (w : World) (args : Array Value), Γ.toEnv = E → Sim Γ st a as β w → RVDs w (Im Γ β st.h w) β ds args.toList →
    CallsIn (Fw none) 0 E.P g args w (Back Γ a as K)
def VCyield (E : Env) (l : Nat) (ds : List D) (st : St) (K : D → St → Prop) : Prop :=
  ∀ (Γ : Ctx) (a : Act) (as : List Act) (β : Nat → Pl) (w : World) (args : Array Value) (b c sz : Nat), Γ.toEnv = E → Sim Γ st a as β w → β l = .blk b c sz → RVDs w (Im Γ β st.h w) β ds args.toList →
    ∃ f tmps assign body, (Instr.yield b args).run E.P w = .ok (.round b f tmps assign body) w ∧ RoundIn (Fw none) 0 E.P b f tmps assign body w (Back Γ a as K)
/-! ### A region, in the order in which it stands -/
def putO (st : St) : Option Nat → D → St
  | none, _ => st
  | some t, d => st.put t d
def dstOK (st : St) : Option Nat → Prop
  | none => True
  | some t => t < st.c.n
def gtmp (ops : Array Oper) (j : Nat) : Option Nat := (ops[j]?).bind (·.dst)
def guarded (f : St → Prop) (g : St → Prop) (st : St) (t : Option Nat) (b : Bool) : Prop :=
  match t with
  | none => False
  | some t => match look st.c.t t with
    | .dat (.bool c) => (c = b → f (st.put t (.dat (.bool b)))) ∧ (c = !b → g (st.put t (.dat (.bool !b))))
    | .tup [] => g st
    | _ => False
def goOps (E : Env) (Φ : Fns) (ops : Array Oper) : List Oper → St → (St → Prop) → Prop
  | [], st, K => K st
  | o :: l, st, K =>
    let run : St → Prop := fun st => (ev E Φ st o.op).ok st ⟨fun d s => dstOK s o.dst ∧ goOps E Φ ops l (putO s o.dst d) K, fun s => dstOK s o.dst ∧ goOps E Φ ops l (putO s o.dst (.tup [])) K,
      fun g ds => VCcall E g ds st fun d s => dstOK s o.dst ∧ goOps E Φ ops l (putO s o.dst d) K, fun r ds => VCyield E r ds st fun d s => dstOK s o.dst ∧ goOps E Φ ops l (putO s o.dst d) K⟩
    match o.guard with
    | none => run st
    | some (j, b) => guarded run (fun s => dstOK s o.dst ∧ goOps E Φ ops l (putO s o.dst (.tup [])) K) st (gtmp ops j) b
section
variable {Γ : Ctx} {st : St} {a : Act} {as : List Act} {β : Nat → Pl} {w : World} {Φ : Fns} {ρ : Option Nat} {next : Act → World → Prop} {Q : Exit → Act → World → Prop}
theorem Sim.putO (S : Sim Γ st a as β w) {t : Option Nat} {d : D} {v : Value} (ht : dstOK st t) (hd : RVD w (Im Γ β st.h w) β d v) : Sim Γ (putO st t d) (a.put t v) as β w := by
  cases t with
  | none => exact S
  | some t => exact S.put ht hd
theorem undef_ok {w : World} {I : Cset} : RVD w I β (.tup []) undef := by
  simp only [RVD]
  exact ⟨#[], rfl, by simp only [RVDs]⟩
theorem Sim.know (S : Sim Γ st a as β w) {t : Nat} {d : D} (hd : RVD w (Im Γ β st.h w) β d (a.tmps.getD t undef)) : Sim Γ (st.put t d) a as β w := by
  refine ⟨S.below, S.hJ, S.glob, S.apart, ⟨S.cur.1, fun u => ?_, S.cur.2.2⟩, S.stk, S.heap⟩
  show RVD w (Im Γ β st.h w) β (look ((t, d) :: st.c.t) u) (a.tmps.getD u undef)
  simp only [look]
  by_cases e : t = u
  · subst e; rw [if_pos rfl]; exact hd
  · rw [if_neg e]; exact S.cur.2.1 u
theorem getD_bool {xs : Array Value} {t : Nat} {b : Bool} (h : xs.getD t undef = .bool b) : xs[t]? = some (.bool b) := by
  rw [Array.getD_eq_getD_getElem?] at h
  cases hx : xs[t]? with
  | none => rw [hx] at h; cases h
  | some v => rw [hx] at h; simp at h; rw [h]
theorem getD_undef {xs : Array Value} {t : Nat} (h : xs.getD t undef = undef) : ∀ b, xs[t]? ≠ some (.bool b) := by
  intro b hb
  rw [Array.getD_eq_getD_getElem?, hb] at h
  cases h
theorem goOps_ok (hΦ : Sound Γ.toEnv Φ) {ops : Array Oper} {K : St → Prop} (hQ : ∀ st a β w, Sim Γ st a as β w → K st → Q .normal a w) : ∀ (l : List Oper) (i : Nat) (st : St) (a : Act) (β : Nat → Pl) (w : World), ops.toList.drop i = l →
    Sim Γ st a as β w → goOps Γ.toEnv Φ ops l st K → wpOpsIn (Fw ρ) 0 Γ.P ops Q (List.range' i l.length) a w
  | [], i, st, a, β, w, hl, S, h => by
    simp only [List.length_nil, List.range'_zero, wpOpsIn]
    exact hQ st a β w S h
  | o :: l, i, st, a, β, w, hl, S, h => by
    have ho : ops[i]? = some o := by
      have := congrArg List.head? hl
      rw [List.head?_drop] at this
      simpa using this
    have hl' : ops.toList.drop (i + 1) = l := by
      rw [← List.tail_drop, hl]; rfl
    simp only [List.length_cons, List.range'_succ, wpOpsIn, ho]
    have hrun : ∀ (st : St) (S : Sim Γ st a as β w), (ev Γ.toEnv Φ st o.op).ok st ⟨fun d s => dstOK s o.dst ∧ goOps Γ.toEnv Φ ops l (Vm.putO s o.dst d) K, fun s => dstOK s o.dst ∧ goOps Γ.toEnv Φ ops l (Vm.putO s o.dst (.tup [])) K,
        fun g ds => VCcall Γ.toEnv g ds st fun d s => dstOK s o.dst ∧ goOps Γ.toEnv Φ ops l (Vm.putO s o.dst d) K, fun r ds => VCyield Γ.toEnv r ds st fun d s => dstOK s o.dst ∧ goOps Γ.toEnv Φ ops l (Vm.putO s o.dst d) K⟩ →
        o.wpIn (Fw ρ) 0 Γ.P a w (wpOpsIn (Fw ρ) 0 Γ.P ops Q (List.range' (i + 1) l.length)) Q := by
      intro st S h
      refine ev_ok S hΦ o h ?_ ?_ ?_ ?_
      · rintro v d st' β' w' S' hv ⟨h1, h2⟩
        exact goOps_ok hΦ hQ l (i + 1) _ _ β' w' hl' (S'.putO h1 hv) h2
      · rintro st' β' w' S' ⟨h1, h2⟩
        exact goOps_ok hΦ hQ l (i + 1) _ _ β' w' hl' (S'.putO h1 undef_ok) h2
      · intro g ds args hargs hc
        refine (hc Γ a as β w args rfl S hargs).mono fun e w'' he => ?_
        obtain ⟨v, d, st', β', rfl, S', hv, h1, h2⟩ := he
        exact ⟨v, rfl, goOps_ok hΦ hQ l (i + 1) _ _ β' w'' hl' (S'.putO h1 hv) h2⟩
      · intro r ds args b c sz hb hargs hc
        obtain ⟨f, tmps, assign, body, hr, hround⟩ := hc Γ a as β w args b c sz rfl S hb hargs
        rw [hr]
        refine ⟨fun e => by simp [Fw, Fence.wide] at e, RoundIn.mono (F := Fw ρ) hround fun e w'' he => ?_⟩
        obtain ⟨v, d, st', β', rfl, S', hv, h1, h2⟩ := he
        exact goOps_ok hΦ hQ l (i + 1) _ _ β' w'' hl' (S'.putO h1 hv) h2
    have hskip : ∀ (st : St) (S : Sim Γ st a as β w), dstOK st o.dst ∧ goOps Γ.toEnv Φ ops l (Vm.putO st o.dst (.tup [])) K → (∀ f, o.about Γ.P w a.eval = some f → (Fw ρ).fn f) ∧ wpOpsIn (Fw ρ) 0 Γ.P ops Q (List.range' (i + 1) l.length) (a.put o.dst undef) w := by
      rintro st S ⟨h1, h2⟩
      exact ⟨fun _ _ => trivial, goOps_ok hΦ hQ l (i + 1) _ _ β w hl' (S.putO h1 undef_ok) h2⟩
    unfold goOps at h
    cases hg : o.guard with
    | none =>
      rw [hg] at h
      rw [if_pos (by simp [Region.wanted, hg])]
      exact hrun st S h
    | some jb =>
      obtain ⟨j, b⟩ := jb
      rw [hg] at h
      simp only [guarded] at h
      split at h
      · exact h.elim
      · rename_i t ht
        have hget := S.get t
        have hy : yielded ops a.tmps j = match a.tmps[t]? with | some (.bool b) => some b | _ => none := by
          unfold yielded
          rw [show (ops[j]?).bind (·.dst) = some t from ht]
          rfl
        split at h
        · rename_i c hc
          rw [hc] at hget
          simp only [RVD, RV] at hget
          have hy' : yielded ops a.tmps j = some c := by rw [hy, getD_bool hget]
          by_cases hcb : c = b
          · rw [if_pos (by simp [Region.wanted, hg, hy', hcb])]
            refine hrun _ (S.know ?_) (h.1 hcb)
            rw [hget, hcb]; simp only [RVD, RV]
          · rw [if_neg (by simp [Region.wanted, hg, hy', hcb])]
            have hcb' : c = !b := by cases c <;> cases b <;> simp_all
            refine hskip _ (S.know ?_) (h.2 hcb')
            rw [hget, hcb']; simp only [RVD, RV]
        · rename_i hc
          rw [hc] at hget
          simp only [RVD] at hget
          obtain ⟨vs, hv, hvs⟩ := hget
          simp only [RVDs] at hvs
          have hv' : a.tmps.getD t undef = undef := by
            rw [hv]
            have : vs = #[] := by apply Array.ext'; simpa using hvs
            rw [this]; rfl
          have hy' : yielded ops a.tmps j = none := by
            rw [hy]
            split
            · rename_i b' hb'
              exact absurd hb' (getD_undef hv' b')
            · rfl
          rw [if_neg (by simp [Region.wanted, hg, hy'])]
          exact hskip st S h
        · exact h.elim
end
end Go.Proofs.YtfbodageccednaaDoor.Vm
namespace Go.Proofs.YtfbodageccednaaDoor.Vm
open Go Go.RowKit
/-! ### Rules -/
def thenK (f : St → Prop) (K : Exit → St → Prop) : Exit → St → Prop
  | .normal, s => f s
  | e, s => K e s
def blockK (id : Nat) (K : Exit → St → Prop) : Exit → St → Prop
  | .exit id', s => if id' = id then K .normal s else K (.exit id') s
  | e, s => K e s
/-- What the one state tells, the other tells as well. -/
def Ent (st st' : St) : Prop := ∀ (Γ : Ctx) (a : Act) (as : List Act) (β : Nat → Pl) (w : World), Sim Γ st a as β w → ∃ β', Sim Γ st' a as β' w
theorem Ent.refl (st : St) : Ent st st := fun _ _ _ β _ S => ⟨β, S⟩
theorem Ent.of_eq {st st' : St} (h : st = st') : Ent st st' := h ▸ Ent.refl st
theorem Ent.trans {s1 s2 s3 : St} (h : Ent s1 s2) (k : Ent s2 s3) : Ent s1 s3 := fun Γ a as β w S => let ⟨β', S'⟩ := h Γ a as β w S; k Γ a as β' w S'
section
variable {E : Env} {Φ : Fns} {ρ : Option Nat} {st : St} {K : Exit → St → Prop}
theorem VC.mono {c : Code} {K' : Exit → St → Prop} (h : VC E ρ c st K) (hk : ∀ e s, K e s → K' e s) : VC E ρ c st K' := fun Γ a as β w hΓ S =>
  wpIn_mono (h Γ a as β w hΓ S) fun e a w ⟨st', β', S', k⟩ => ⟨st', β', S', hk _ _ k⟩
theorem VC.ent {c : Code} {st' : St} (he : Ent st st') (h : VC E ρ c st' K) : VC E ρ c st K := fun Γ a as β w hΓ S =>
  let ⟨β', S'⟩ := he Γ a as β w S
  h Γ a as β' w hΓ S'
theorem VC.skip (h : K .normal st) : VC E ρ .skip st K := fun Γ a as β w hΓ S => wpIn_skip ⟨st, β, S, h⟩
theorem VC.label {l : Nat} (h : K .normal st) : VC E ρ (.label l) st K := fun Γ a as β w hΓ S => wpIn_label ⟨st, β, S, h⟩
theorem VC.exit {id : Nat} (h : K (.exit id) st) : VC E ρ (.exit id) st K := fun Γ a as β w hΓ S => wpIn_exit ⟨st, β, S, h⟩
theorem VC.goto {l : Nat} (h : K (.goto l) st) : VC E ρ (.goto l) st K := fun Γ a as β w hΓ S => wpIn_goto ⟨st, β, S, h⟩
theorem VC.ret (h : K .ret st) : VC E ρ .ret st K := fun Γ a as β w hΓ S => wpIn_ret ⟨st, β, S, h⟩
theorem VC.seq {x y : Code} (h : VC E ρ x st (thenK (fun s => VC E ρ y s K) K)) : VC E ρ (.seq x y) st K := fun Γ a as β w hΓ S => by
  subst hΓ
  refine wpIn_seq (wpIn_mono (h Γ a as β w rfl S) ?_)
  rintro e a' w' ⟨st', β', S', k⟩
  cases e with
  | normal => exact k Γ a' as β' w' rfl S'
  | _ => exact ⟨st', β', S', k⟩
theorem VC.block {id : Nat} {c : Code} (h : VC E ρ c st (blockK id K)) : VC E ρ (.block id c) st K := fun Γ a as β w hΓ S => by
  refine wpIn_block (wpIn_mono (h Γ a as β w hΓ S) ?_)
  rintro e a' w' ⟨st', β', S', k⟩
  cases e with
  | exit id' =>
    simp only [blockK] at k
    simp only [Exit.inBlock]
    split at k
    · rename_i e; rw [if_pos e]; exact ⟨st', β', S', k⟩
    · rename_i e; rw [if_neg e]; exact ⟨st', β', S', k⟩
  | _ => exact ⟨st', β', S', k⟩
def condK (d : D) (f g : Prop) : Prop :=
  match d with
  | .dat (.bool b) => (b = true → f) ∧ (b = false → g)
  | _ => False
theorem VC.cond {c : Operand} {x y : Code} (h : condK (evO E st c) (VC E ρ x st K) (VC E ρ y st K)) : VC E ρ (.cond c x y) st K := fun Γ a as β w hΓ S => by
  subst hΓ
  have hc := S.eval c
  unfold condK at h
  split at h
  · rename_i b hb
    rw [hb] at hc
    simp only [RVD, RV] at hc
    exact wpIn_cond_split hc (fun e => h.1 e Γ a as β w rfl S) fun e => h.2 e Γ a as β w rfl S
  · exact h.elim
theorem VC.region {id : Nat} {ops : Array Oper} (hΦ : Sound E Φ) (h : ∀ K' : St → Prop, (∀ s, K .normal s → K' s) → goOps E Φ ops ops.toList st K') : VC E ρ (.region id ops false) st K := fun Γ a as β w hΓ S => by
  subst hΓ
  refine wpIn_region ?_
  have := goOps_ok (Γ := Γ) (as := as) (Q := fun e a w => ∃ st' β', Sim Γ st' a as β' w ∧ K e st') (ρ := ρ.map Γ.pin) hΦ (K := K .normal) (fun st a β w S k => ⟨st, β, S, k⟩) ops.toList 0 st a β w rfl S (h _ fun _ k => k)
  rw [List.range_eq_range']
  exact this
theorem exists_min {T : Nat → Prop} (h : ∃ n, T n) : ∃ n, T n ∧ ∀ m, T m → n ≤ m := by
  obtain ⟨n, hn⟩ := h
  induction n using Nat.strongRecOn with
  | _ n ih =>
    by_cases hl : ∃ m, m < n ∧ T m
    · obtain ⟨m, hm, hT⟩ := hl
      exact ih m hm hT
    · exact ⟨n, hn, fun m hm => Nat.le_of_not_lt fun hlt => hl ⟨m, hlt, hm⟩⟩
theorem VC.loop {ι : Type} {c : Code} (I : ι → St) (p : ι → Prop) (μ : ι → Nat) (i0 : ι) (hp : p i0) (h0 : Ent st (I i0))
    (step : ∀ i, p i → VC E ρ c (I i) (thenK (fun s => ∃ j, p j ∧ Ent s (I j) ∧ μ j < μ i) K)) : VC E ρ (.loop c) st K := fun Γ a as β w hΓ S => by
  classical
  let T : Nat → Act → World → Prop := fun n a w => ∃ i β, p i ∧ Sim Γ (I i) a as β w ∧ μ i = n
  let M : Act → World → Nat := fun a w => if h : ∃ n, T n a w then Classical.choose (exists_min h) else 0
  obtain ⟨β0, S0⟩ := h0 Γ a as β w S
  refine wpIn_loop (I := fun a w => ∃ n, T n a w) (μ := M) ⟨_, i0, β0, hp, S0, rfl⟩ ?_
  intro a w hT
  obtain ⟨i, β, hpi, Si, hμ⟩ := (Classical.choose_spec (exists_min hT)).1
  refine wpIn_mono (step i hpi Γ a as β w hΓ Si) ?_
  rintro e a' w' ⟨st', β', S', k⟩
  cases e with
  | normal =>
    obtain ⟨j, hpj, hj, hlt⟩ := k
    obtain ⟨β'', S''⟩ := hj Γ a' as β' w' S'
    have hT' : ∃ n, T n a' w' := ⟨_, j, β'', hpj, S'', rfl⟩
    refine ⟨hT', ?_⟩
    have h1 : M a' w' = Classical.choose (exists_min hT') := dif_pos hT'
    have h2 : M a w = Classical.choose (exists_min hT) := dif_pos hT
    rw [h1, h2]
    exact Nat.lt_of_le_of_lt ((Classical.choose_spec (exists_min hT')).2 _ ⟨j, β'', hpj, S'', rfl⟩) (hμ ▸ hlt)
  | _ => exact ⟨st', β', S', k⟩
theorem VC.cut {ι : Type} {x y : Code} (I : ι → St) (p : ι → Prop) (h : VC E ρ x st (thenK (fun s => ∃ i, p i ∧ Ent s (I i)) K)) (hy : ∀ i, p i → VC E ρ y (I i) K) : VC E ρ (.seq x y) st K := by
  refine VC.seq (h.mono ?_)
  intro e s k
  cases e with
  | normal =>
    obtain ⟨i, hp, he⟩ := k
    exact (hy i hp).ent he
  | _ => exact k
/-! weaker states -/
theorem Ent.temps {n : Nat} {t t' : Tm} {m : List Nat} {s : List Fr} {h : List (Nat × Blk)} (ht : ∀ u, look t' u = look t u ∨ look t' u = .junk) : Ent ⟨⟨n, t, m⟩, s, h⟩ ⟨⟨n, t', m⟩, s, h⟩ := fun Γ a as β w S =>
  ⟨β, S.below, S.hJ, S.glob, S.apart, ⟨S.cur.1, fun u => by
    rcases ht u with e | e
    · show RVD w _ β (look t' u) _
      rw [e]; exact S.cur.2.1 u
    · show RVD w _ β (look t' u) _
      rw [e]; simp only [RVD], S.cur.2.2⟩, S.stk, S.heap⟩
def keepT (ts : List Nat) (t : Tm) : Tm := ts.map fun u => (u, look t u)
theorem look_keepT (ts : List Nat) (t : Tm) (u : Nat) : look (keepT ts t) u = look t u ∨ look (keepT ts t) u = .junk := by
  induction ts with
  | nil => exact .inr rfl
  | cons x r ih =>
    simp only [keepT, List.map_cons, look]
    by_cases e : x = u
    · rw [if_pos e, e]; exact .inl rfl
    · rw [if_neg e]; exact ih
def St.keep (st : St) (ts : List Nat) : St := ⟨⟨st.c.n, keepT ts st.c.t, st.c.m⟩, st.s, st.h⟩
theorem Ent.keep (st : St) (ts : List Nat) : Ent st (st.keep ts) := Ent.temps (look_keepT ts st.c.t)
/-- Fewer blocks. -/
theorem Im.fewer {Γ : Ctx} {β : Nat → Pl} {h h' : List (Nat × Blk)} {w : World} (hh : ∀ l B, find h' l = some B → find h l = some B) : Keeps w (Im Γ β h w) w (Im Γ β h' w) := fun b o hi =>
  ⟨hi.imp id fun ⟨h1, h2, h3⟩ => ⟨h1, h2, fun l B hB => h3 l B (hh l B hB)⟩, rfl⟩
theorem Ent.fewer {c : Fr} {s : List Fr} {h h' : List (Nat × Blk)} (hh : ∀ l B, find h' l = some B → find h l = some B) : Ent ⟨c, s, h⟩ ⟨c, s, h'⟩ := fun Γ a as β w S => by
  have Kp : Keeps w (Im Γ β h w) w (Im Γ β h' w) := Im.fewer hh
  refine ⟨β, S.below, S.hJ, S.glob.keeps Kp, ?_, S.cur.keeps Kp, S.stk.keeps Kp, ?_⟩
  · intro l l' B B' b c c' sz sz' h1 h2
    exact S.apart l l' B B' b c c' sz sz' (hh _ _ h1) (hh _ _ h2)
  · intro l B hB
    exact (S.heap l B (hh l B hB)).keep Kp fun _ _ _ _ => rfl
def keepH : List Nat → List (Nat × Blk) → List (Nat × Blk)
  | [], _ => []
  | l :: ls, h => match find h l with
    | some B => (l, B) :: keepH ls h
    | none => keepH ls h
theorem find_keepH (h : List (Nat × Blk)) : ∀ (ls : List Nat) (l : Nat) (B : Blk), find (keepH ls h) l = some B → find h l = some B
  | [], l, B, hf => by simp [keepH, find] at hf
  | k :: ls, l, B, hf => by
    simp only [keepH] at hf
    split at hf
    · rename_i B0 h0
      simp only [find] at hf
      by_cases e : k = l
      · rw [if_pos e] at hf
        rw [← e, h0, hf]
      · rw [if_neg e] at hf
        exact find_keepH h ls l B hf
    · exact find_keepH h ls l B hf
/-- These temporaries, these blocks, in this order. -/
def St.only (st : St) (ts ls : List Nat) : St := ⟨⟨st.c.n, keepT ts st.c.t, st.c.m⟩, st.s, keepH ls st.h⟩
theorem Ent.only (st : St) (ts ls : List Nat) : Ent st (st.only ts ls) := (Ent.keep st ts).trans (Ent.fewer (find_keepH st.h ls))
end
end Go.Proofs.YtfbodageccednaaDoor.Vm
namespace Go.Proofs.YtfbodageccednaaDoor.Vm
open Go Go.RowKit
/-! ### Calls that are walked; what a function hands back -/
section
variable {Γ : Ctx} {st : St} {a : Act} {as : List Act} {β : Nat → Pl} {w : World}
theorem load_ref (S : Sim Γ st a as β w) {t : TypeId} {l o : Nat} {cs : List D} {fz : Bool} {d : D} {v' : Value} (hne : kindT Γ.P t ≠ .other) (hx : RVD w (Im Γ β st.h w) β (.ref l o) v') (hf : find st.h l = some (.cells cs fz)) (hd : partD Γ.P t cs o = some d) :
    ∃ v, (do loadVar t (← asAddr v') : Sem Value).run Γ.P w = .ok v w ∧ RVD w (Im Γ β st.h w) β d v := by
  simp only [RVD] at hx
  obtain ⟨b, c, sz, hb, rfl⟩ := hx
  obtain ⟨b', c', sz', cur, e, hb', hge, hh, hcs⟩ := S.heap l _ hf
  rw [hb] at hb'; injection hb' with e1 e2 e3; subst e1
  obtain ⟨v, hrun, hr⟩ := partD_ok (P := Γ.P) hcs hd
  refine ⟨v, ?_, hr⟩
  have hlen := hcs.length
  simp only [part, Sem.run_bind, run_isAgg w hne, Result.andThen_ok] at hrun
  simp only [asAddr, loadVar, Sem.run_bind, Sem.run_pure, Result.andThen_ok, run_isAgg w hne]
  by_cases ha : (kindT Γ.P t).agg = true
  · simp only [ha, if_true, Sem.run_bind, run_sizeOf w hne, Result.andThen_ok, Sem.run_pure] at hrun ⊢
    have hd' : o + szT Γ.P t ≤ cs.length := by
      unfold partD at hd
      split at hd
      · cases hd
      · simp only [ha, if_true] at hd
        split at hd
        · assumption
        · cases hd
    have hl : (cur.extract o (o + szT Γ.P t)).toList.length = szT Γ.P t := by simp at hlen ⊢; omega
    have h2 : (loadCells ⟨b, o, none⟩ (cur.extract o (o + szT Γ.P t)).toList.length).run Γ.P w = .ok (cur.extract o (o + szT Γ.P t)).toList.toArray w :=
      run_loadCells_list (P := Γ.P) w ⟨b, o, none⟩ _ (fun j u hj => by
        rw [Addr.add_lit]
        simp only [World.cell?, hh, Option.isSome_none, Bool.false_eq_true, if_false]
        rw [Array.getElem?_toList, Array.getElem?_extract] at hj
        split at hj
        · exact hj
        · cases hj)
    rw [hl] at h2
    rw [h2, Array.toArray_toList]
    exact hrun
  · simp only [ha, if_false, Bool.false_eq_true] at hrun ⊢
    have hcell : w.cell? ⟨b, o, none⟩ = cur[o]? := by simp only [World.cell?, hh, Option.isSome_none, Bool.false_eq_true, if_false]
    cases hv : cur[o]? with
    | none => simp [hv] at hrun
    | some u =>
      simp only [hv, Sem.run_pure, Result.ok.injEq] at hrun
      simp [hcell, hv, hrun]
def resD (P : Program) (s : St) : List ResultVar → Option (List D)
  | [] => some []
  | .tmp t :: r => match resD P s r with
    | some ds => some (look s.c.t t :: ds)
    | none => none
  | .cell x t :: r => match kindT P t, look s.c.t x, resD P s r with
    | .other, _, _ => none
    | _, .ref l o, some ds => match find s.h l with
      | some (.cells cs _) => match partD P t cs o with
        | some d => some (d :: ds)
        | none => none
      | _ => none
    | _, _, _ => none
def tupD : List D → D
  | [d] => d
  | ds => .tup ds
theorem resD_ok (S : Sim Γ st a as β w) {g : ResultVar → Sem Value} (hg1 : ∀ t, g (.tmp t) = pure (a.tmps.getD t undef)) (hg2 : ∀ x t, g (.cell x t) = (do loadVar t (← asAddr (a.tmps.getD x undef)) : Sem Value)) : ∀ {rs : List ResultVar} {ds : List D}, resD Γ.P st rs = some ds →
    ∃ vs : List Value, (rs.mapM g).run Γ.P w = .ok vs w ∧ RVDs w (Im Γ β st.h w) β ds vs
  | [], ds, h => by
    simp only [resD, Option.some.injEq] at h
    subst h
    exact ⟨[], rfl, by simp only [RVDs]⟩
  | .tmp t :: r, ds, h => by
    simp only [resD] at h
    split at h
    · rename_i ds' hr
      simp only [Option.some.injEq] at h
      subst h
      obtain ⟨vs, h1, h2⟩ := resD_ok S hg1 hg2 hr
      refine ⟨a.tmps.getD t undef :: vs, ?_, by simp only [RVDs]; exact ⟨_, _, rfl, S.get t, h2⟩⟩
      simp only [List.mapM_cons, hg1, Sem.run_bind, Sem.run_pure, Result.andThen_ok, h1]
    · cases h
  | .cell x t :: r, ds, h => by
    simp only [resD] at h
    split at h
    · cases h
    · rename_i l o ds' hl hr hne
      split at h
      · rename_i cs fz hf
        split at h
        · rename_i d hd
          simp only [Option.some.injEq] at h
          subst h
          obtain ⟨vs, h1, h2⟩ := resD_ok S hg1 hg2 hr
          have hg := S.get x
          rw [hl] at hg
          obtain ⟨v, h3, h4⟩ := load_ref S (fun e => hne e) hg hf hd
          refine ⟨v :: vs, ?_, by simp only [RVDs]; exact ⟨_, _, rfl, h4, h2⟩⟩
          simp only [List.mapM_cons, hg2]
          rw [Sem.run_bind, h3]
          simp only [Result.andThen_ok, Sem.run_bind, h1, Sem.run_pure]
        · cases h
      · cases h
    · cases h
theorem results_ok (S : Sim Γ st a as β w) {fn : Func} {ds : List D} (h : resD Γ.P st fn.results.toList = some ds) : ∃ v, (results fn a.tmps).run Γ.P w = .ok v w ∧ RVD w (Im Γ β st.h w) β (tupD ds) v := by
  have key : ∀ g : ResultVar → Sem Value, (∀ t, g (.tmp t) = pure (a.tmps.getD t undef)) → (∀ x t, g (.cell x t) = (do loadVar t (← asAddr (a.tmps.getD x undef)) : Sem Value)) →
      ∃ v, (do let vs ← fn.results.mapM g; pure (if h : vs.size = 1 then vs[0] else .tuple vs) : Sem Value).run Γ.P w = .ok v w ∧ RVD w (Im Γ β st.h w) β (tupD ds) v := by
    intro g hg1 hg2
    rw [Sem.run_bind, Array.mapM_eq_mapM_toList, Sem.run_map]
    obtain ⟨vs, h1, h2⟩ := resD_ok S hg1 hg2 h
    rw [h1]
    simp only [Result.andThen_ok, Sem.run_pure]
    refine ⟨_, rfl, ?_⟩
    unfold tupD
    split
    · rename_i d
      simp only [RVDs] at h2
      obtain ⟨v, _, rfl, hv, rfl⟩ := h2
      simpa using hv
    · rename_i hne
      have hl := h2.length
      have : ¬ vs.toArray.size = 1 := by
        intro e
        have : ds.length = 1 := by rw [← hl]; simpa using e
        obtain ⟨d, rfl⟩ := List.length_eq_one_iff.1 this
        exact hne d rfl
      rw [dif_neg this]
      simp only [RVD]
      exact ⟨_, rfl, h2⟩
  unfold results
  refine key _ ?_ ?_
  · intro t; rfl
  · intro x t; rfl
end
end Go.Proofs.YtfbodageccednaaDoor.Vm
namespace Go.Proofs.YtfbodageccednaaDoor.Vm
open Go Go.RowKit
section
variable {Γ : Ctx} {st : St} {a : Act} {as : List Act} {β : Nat → Pl} {w : World}
/-- A block is done with: the world may change there. -/
theorem Sim.gone (S : Sim Γ st a as β w) {l b c sz : Nat} {B : Blk} {w' : World} (hf : find st.h l = some B) (hb : β l = .blk b c sz) (hB : ∀ o, Mut β l B b o) (hsize : w'.heap.size = w.heap.size)
    (hother : ∀ k, k ≠ b → w'.heap[k]? = w.heap[k]?) (hbelow : Below Γ.w0.heap.size Γ.w0 w') {h' : List (Nat × Blk)} (hh : ∀ k B', find h' k = some B' → k ≠ l ∧ find st.h k = some B') :
    Sim Γ ⟨st.c, st.s, h'⟩ a as β w' := by
  have K : Keeps w (Im Γ β st.h w) w' (Im Γ β h' w') := by
    intro b' o h
    have hne : b' ≠ b := by
      intro e
      subst e
      rcases h with h | ⟨_, _, h3⟩
      · have := S.hJ _ _ h
        have := (S.lt hf hb).2
        omega
      · exact h3 l B hf (hB o)
    refine ⟨?_, cell_of_heap (hother b' hne) o⟩
    rcases h with h | ⟨h1, h2, h3⟩
    · exact .inl h
    · exact .inr ⟨h1, by omega, fun k B' hB' => h3 k B' (hh k B' hB').2⟩
  refine ⟨hbelow, S.hJ, S.glob.keeps K, ?_, S.cur.keeps K, S.stk.keeps K, ?_⟩
  · intro k k' B1 B2 b1 c1 c' s s' h1 h2 e1 e2
    exact S.apart k k' B1 B2 b1 c1 c' s s' (hh _ _ h1).2 (hh _ _ h2).2 e1 e2
  · intro k B' hB'
    refine (S.heap k B' (hh k B' hB').2).keep K fun b1 c1 s1 e1 => hother b1 fun e => ?_
    subst e
    exact (hh k B' hB').1 (S.apart k l B' B _ c1 c s1 sz (hh k B' hB').2 hf e1 hb)
def dropH (ms : List Nat) (h : List (Nat × Blk)) : List (Nat × Blk) := ms.foldl (fun h l => h.filter fun x => !(x.1 == l)) h
theorem find_filter (l : Nat) : ∀ (h : List (Nat × Blk)) (k : Nat) (B : Blk), find (h.filter fun x => !(x.1 == l)) k = some B → k ≠ l ∧ find h k = some B
  | [], k, B, hf => by simp [find] at hf
  | x :: r, k, B, hf => by
    simp only [List.filter_cons] at hf
    split at hf
    · rename_i hx
      simp only [find] at hf ⊢
      by_cases e : x.1 = k
      · rw [if_pos e] at hf ⊢
        refine ⟨?_, hf⟩
        rintro rfl
        simp [e] at hx
      · rw [if_neg e] at hf ⊢
        exact find_filter l r k B hf
    · rename_i hx
      obtain ⟨h1, h2⟩ := find_filter l r k B hf
      refine ⟨h1, ?_⟩
      simp only [find]
      rw [if_neg]
      · exact h2
      · rintro rfl
        simp at hx
        exact h1 hx
theorem find_filter_ne (l : Nat) : ∀ (h : List (Nat × Blk)) (k : Nat), k ≠ l → find (h.filter fun x => !(x.1 == l)) k = find h k
  | [], k, _ => rfl
  | x :: r, k, hk => by
    simp only [List.filter_cons]
    split
    · simp only [find, find_filter_ne l r k hk]
    · rename_i hx
      simp only [find]
      rw [if_neg, find_filter_ne l r k hk]
      rintro rfl
      simp at hx
      exact hk hx
theorem Below.put {n : Nat} {w : World} {w0 : World} {b : Nat} {o : Obj} (h : Below n w0 w) (hb : n ≤ b) : Below n w0 (w.putObj b o) := by
  refine ⟨h.os, h.tape, h.output, by simpa [World.putObj] using h.size, fun i hi => ?_⟩
  rw [World.putObj_heap_other (by omega)]
  exact h.block i hi
theorem leaves_ok {fn : Func} {R : Ending → World → Prop} : ∀ (m : List Nat) {st : St} {w : World} (S : Sim Γ st a as β w), (∀ l ∈ m, find st.h l = some .defer) → m.Nodup →
    (∀ w', Sim Γ ⟨st.c, st.s, dropH m st.h⟩ a as β w' → LeavesIn (Fw none) 0 Γ.P fn a.tmps R [] .returning w') →
    LeavesInM (Fw none) 0 Γ.P fn a.tmps R (m.map fun l => { target := .collected (match β l with | .blk b _ _ => b | .nil => 0), args := #[] }) .returning w
  | [], st, w, S, _, _, h => h w S
  | l :: m, st, w, S, hl, hd, h => by
    have hf := hl l (by simp)
    obtain ⟨b, c, sz, hb, hge, hh⟩ := S.heap l _ hf
    rw [List.map_cons, LeavesInM]
    refine ⟨(fun e => by cases e), .inl ⟨b, w.putObj b (.deferred none), ?_, run_takeDeferred hh, ?_⟩⟩
    · simp [hb]
    · have hlt := heap_lt hh
      have S' : Sim Γ ⟨st.c, st.s, st.h.filter fun x => !(x.1 == l)⟩ a as β (w.putObj b (.deferred none)) :=
        S.gone hf hb (fun o => ⟨c, sz, hb⟩) (by simp [World.putObj]) (fun k hk => World.putObj_heap_other hk) (Below.put S.below hge) (find_filter l st.h)
      refine leaves_ok m S' (fun k hk => ?_) (List.nodup_cons.1 hd).2 h
      show find (st.h.filter fun x => !(x.1 == l)) k = some .defer
      rw [find_filter_ne l st.h k]
      · exact hl k (by simp [hk])
      · rintro rfl
        exact (List.nodup_cons.1 hd).1 hk
/-! entering, leaving -/
def pT : Nat → List D → Tm
  | _, [] => []
  | i, d :: ds => (i, d) :: pT (i + 1) ds
theorem look_pT : ∀ (ds : List D) (i t : Nat), look (pT i ds) t = if i ≤ t then ds.getD (t - i) .junk else .junk
  | [], i, t => by simp [pT, look]
  | d :: ds, i, t => by
    simp only [pT, look]
    by_cases e : i = t
    · subst e; simp
    · rw [if_neg e, look_pT ds (i + 1) t]
      by_cases h : i ≤ t
      · rw [if_pos h, if_pos (by omega), show t - i = (t - (i + 1)) + 1 by omega]; simp
      · rw [if_neg h, if_neg (by omega)]
def St.enter (st : St) (n : Nat) (ds : List D) : St := ⟨⟨n, pT 0 ds, []⟩, st.c :: st.s, st.h⟩
theorem enter_frame {w : World} {I : Cset} {ds : List D} {args : Array Value} {n : Nat} (h : RVDs w I β ds args.toList) (hn : ds.length ≤ n) : FrOK w I β ⟨n, pT 0 ds, []⟩ { tmps := args ++ Array.replicate (n - args.size) undef, defers := [] } := by
  have hl : args.size = ds.length := by have := h.length; simpa using this
  refine ⟨by simp [hl]; omega, fun t => ?_, rfl⟩
  show RVD w I β (look (pT 0 ds) t) _
  rw [look_pT, if_pos (Nat.zero_le _), Nat.sub_zero]
  rcases Nat.lt_or_ge t ds.length with ht | ht
  · obtain ⟨v, h1, h2⟩ := h.at t ds[t] (List.getElem?_eq_getElem ht)
    have e1 : ds.getD t .junk = ds[t] := by simp [List.getD, ht]
    have e2 : (args ++ Array.replicate (n - args.size) undef).getD t undef = v := by
      have h3 : args[t]? = some v := by simpa using h1
      rw [Array.getD_eq_getD_getElem?, Array.getElem?_append_left (by omega), h3]; rfl
    rw [e1]
    show RVD w I β _ ((args ++ Array.replicate (n - args.size) undef).getD t undef)
    rw [e2]; exact h2
  · have e1 : ds.getD t .junk = .junk := by simp [List.getD, List.getElem?_eq_none ht]
    rw [e1]; simp only [RVD]
def retS (P : Program) (rs : List ResultVar) (K : D → St → Prop) (s : St) : Prop :=
  (∀ l ∈ s.c.m, find s.h l = some .defer) ∧ s.c.m.Nodup ∧
    match resD P ⟨s.c, s.s, dropH s.c.m s.h⟩ rs, s.s with
    | some ds, f :: r => K (tupD ds) ⟨f, r, dropH s.c.m s.h⟩
    | _, _ => False
def retK (P : Program) (rs : List ResultVar) (K : D → St → Prop) : Exit → St → Prop
  | .normal, s => retS P rs K s
  | .ret, s => retS P rs K s
  | _, _ => False
end
section
variable {E : Env} {st : St}
theorem VCcall.enter {g : Nat} {ds : List D} {K : D → St → Prop} {fn : Func} {c : Code} {rs : List ResultVar} {n : Nat} (hf : E.P.funcs[g]? = some fn) (hb : fn.body = some c) (hrs : fn.results.toList = rs) (hnt : fn.ntmps = n) (hn : ds.length ≤ n)
    (h : VC E none c (st.enter n ds) (retK E.P rs K)) : VCcall E g ds st K := by
  intro Γ a as β w args hΓ S hargs
  subst hΓ
  subst hrs
  subst hnt
  have S1 : Sim Γ (st.enter fn.ntmps ds) { tmps := args ++ Array.replicate (fn.ntmps - args.size) undef, defers := [] } (a :: as) β w :=
    ⟨S.below, S.hJ, S.glob, S.apart, enter_frame hargs hn, ⟨a, as, rfl, S.cur, S.stk⟩, S.heap⟩
  refine callsIn_of_wp_marks hf hb trivial (wpIn_mono (h Γ _ (a :: as) β w rfl S1) ?_)
  rintro e a' w' ⟨s, β', S', k⟩
  have ret : retS Γ.P fn.results.toList K s → LeavesInM (Fw none) 0 Γ.P fn a'.tmps (Back Γ a as K) a'.defers .returning w' := by
    rintro ⟨k1, k2, k3⟩
    rw [S'.cur.2.2]
    refine leaves_ok s.c.m S' k1 k2 fun w'' S'' => ?_
    split at k3
    · rename_i ds' f r hds hs
      obtain ⟨v, h1, h2⟩ := results_ok S'' (fn := fn) hds
      refine ⟨v, h1, v, tupD ds', ⟨f, r, dropH s.c.m s.h⟩, β', rfl, ?_, h2, k3⟩
      have hst := S''.stk
      simp only [hs, FrsOK] at hst
      obtain ⟨a1, as1, e1, h3, h4⟩ := hst
      injection e1 with e1 e2
      subst e1 e2
      exact ⟨S''.below, S''.hJ, S''.glob, S''.apart, h3, h4, S''.heap⟩
    · exact k3.elim
  cases e with
  | normal => exact ret k
  | ret => exact ret k
  | _ => exact k.elim
end
end Go.Proofs.YtfbodageccednaaDoor.Vm
namespace Go.Proofs.YtfbodageccednaaDoor.Vm
open Go Go.RowKit
/-! ### A function that only computes, from its body -/
def pureS (P : Program) (rs : List ResultVar) (res : List Data) (s : St) : Prop :=
  (∀ l ∈ s.c.m, find s.h l = some .defer) ∧ s.c.m.Nodup ∧
    match resD P ⟨s.c, s.s, dropH s.c.m s.h⟩ rs with
    | some ds => match frzs ⟨s.c, s.s, dropH s.c.m s.h⟩ ds with
      | some (xs, _) => xs = res
      | none => False
    | none => False
def pureK (P : Program) (rs : List ResultVar) (res : List Data) : Exit → St → Prop
  | .normal, s => pureS P rs res s
  | .ret, s => pureS P rs res s
  | _, _ => False
def pureSt (n : Nat) (ds : List Data) : St := ⟨⟨n, pT 0 (ds.map .dat), []⟩, [], []⟩
theorem RVs.dats {w : World} {I : Cset} {β : Nat → Pl} : ∀ {ds : List Data} {vs : List Value}, RVs w I ds vs → RVDs w I β (ds.map .dat) vs
  | [], vs, h => h
  | d :: ds, vs, h => by
    simp only [RVs] at h
    simp only [List.map_cons, RVDs]
    obtain ⟨v, r, rfl, h1, h2⟩ := h
    exact ⟨v, r, rfl, h1, RVs.dats h2⟩
theorem dats_RVs {w : World} {I : Cset} {β : Nat → Pl} : ∀ {ds : List Data} {vs : List Value}, RVDs w I β (ds.map .dat) vs → RVs w I ds vs
  | [], vs, h => h
  | d :: ds, vs, h => by
    simp only [List.map_cons, RVDs] at h
    simp only [RVs]
    obtain ⟨v, r, rfl, h1, h2⟩ := h
    exact ⟨v, r, rfl, h1, dats_RVs h2⟩
theorem Pure.of_body {E : Env} {g : Nat} {pf : PFn} {fn : Func} {c : Code} {rs : List ResultVar} {n : Nat} (hf : E.P.funcs[g]? = some fn) (hb : fn.body = some c) (hrs : fn.results.toList = rs) (hnt : fn.ntmps = n)
    (h : ∀ ds, pf.pre ds → ds.length ≤ n ∧ VC E none c (pureSt n ds) (pureK E.P rs (pf.res ds))) : Pure E g pf := by
  subst hrs
  subst hnt
  intro w J args ds hJ hG hargs hpre
  obtain ⟨hlen, hvc⟩ := h ds hpre
  let Γ : Ctx := ⟨E, w, J, fun _ => 0⟩
  have hK : Keeps w J w (Im Γ (fun _ => .nil) [] w) := fun b o hj => ⟨.inl hj, rfl⟩
  have S : Sim Γ (pureSt fn.ntmps ds) { tmps := args ++ Array.replicate (fn.ntmps - args.size) undef, defers := [] } [] (fun _ => .nil) w := by
    refine ⟨Below.refl _ _, hJ, hG.keeps hK, ?_, ?_, ?_, ?_⟩
    · intro l l' B B' b c c' sz sz' h1; simp [pureSt, find] at h1
    · exact enter_frame (RVs.dats (RVs.keeps hK _ _ hargs)) (by simpa using hlen)
    · exact rfl
    · intro l B hB; simp [pureSt, find] at hB
  refine callsIn_of_wp_marks hf hb trivial (wpIn_mono (hvc Γ _ [] _ w rfl S) ?_)
  rintro e a' w' ⟨s, β', S', k⟩
  have ret : pureS E.P fn.results.toList (pf.res ds) s → LeavesInM (Fw none) 0 E.P fn a'.tmps (fun e w' => ∃ v, e = .returned v ∧ Below w.heap.size w w' ∧ RVD w' (Fresh J w w') (fun _ => .nil) (retD (pf.res ds)) v) a'.defers .returning w' := by
    rintro ⟨k1, k2, k3⟩
    rw [S'.cur.2.2]
    refine leaves_ok (Γ := Γ) s.c.m S' k1 k2 fun w'' S'' => ?_
    split at k3
    · rename_i ds' hds
      obtain ⟨v, h1, h2⟩ := results_ok S'' (fn := fn) hds
      refine ⟨v, h1, v, rfl, S''.below, ?_⟩
      split at k3
      · rename_i xs st' hfz
        rw [← k3]
        have fin : ∀ {vs : List Value}, RVDs w'' (Im Γ β' (dropH s.c.m s.h) w'') β' ds' vs → RVs w'' (Fresh J w w'') xs vs := by
          intro vs hvs
          obtain ⟨⟨S3, _⟩, h3⟩ := frzs_ok ds' S'' hvs hfz
          refine RVs.keeps ?_ _ _ h3
          intro b o hi
          refine ⟨?_, rfl⟩
          rcases hi with hi | ⟨g1, g2, _⟩
          · exact .inl hi
          · exact .inr ⟨g1, g2⟩
        have hlx : xs.length = ds'.length := by
          have aux : ∀ (ds : List D) (st st' : St) (xs : List Data), frzs st ds = some (xs, st') → xs.length = ds.length := by
            intro ds
            induction ds with
            | nil => intro st st' xs h; simp only [frzs, Option.some.injEq, Prod.mk.injEq] at h; rw [← h.1]; rfl
            | cons d ds ih =>
              intro st st' xs h
              simp only [frzs] at h
              split at h
              · split at h
                · rename_i h2
                  simp only [Option.some.injEq, Prod.mk.injEq] at h
                  rw [← h.1]
                  simp [ih _ _ _ h2]
                · cases h
              · cases h
          exact aux _ _ _ _ hfz
        unfold tupD at h2
        split at h2
        · rename_i d
          obtain ⟨x, rfl⟩ := List.length_eq_one_iff.1 (hlx.trans rfl)
          have := fin (vs := [v]) (by simp only [RVDs]; exact ⟨v, [], rfl, h2, rfl⟩)
          simp only [RVs] at this
          obtain ⟨v', r, e, h4, _⟩ := this
          injection e with e1 e2; subst e1
          simp only [retD, RVD]; exact h4
        · rename_i hne
          simp only [RVD] at h2
          obtain ⟨vs, rfl, h2⟩ := h2
          have h3 := fin h2
          unfold retD
          split
          · rename_i x
            obtain ⟨d, rfl⟩ := List.length_eq_one_iff.1 (hlx.symm.trans rfl)
            exact absurd rfl (hne d)
          · simp only [RVD]
            exact ⟨vs, rfl, RVs.dats h3⟩
      · exact k3.elim
    · exact k3.elim
  cases e with
  | normal => exact ret k
  | ret => exact ret k
  | _ => exact k.elim
end Go.Proofs.YtfbodageccednaaDoor.Vm
namespace Go.Proofs.YtfbodageccednaaDoor.Vm
open Go Go.RowKit
/-! ### The rows that a region is reckoned by: of an operation, what it writes, what it does, the temporary it is guarded by -/
structure SO where
  dst : Option Nat
  op : Op
  g : Option (Option Nat × Bool)
def stripG (ops : Array Oper) : Option (Nat × Bool) → Option (Option Nat × Bool)
  | none => none
  | some (j, b) => some (gtmp ops j, b)
def strip (ops : Array Oper) (o : Oper) : SO := ⟨o.dst, o.op, stripG ops o.guard⟩
def goL (E : Env) (Φ : Fns) : List SO → St → (St → Prop) → Prop
  | [], st, K => K st
  | o :: l, st, K =>
    let run : St → Prop := fun st => (ev E Φ st o.op).ok st ⟨fun d s => dstOK s o.dst ∧ goL E Φ l (putO s o.dst d) K, fun s => dstOK s o.dst ∧ goL E Φ l (putO s o.dst (.tup [])) K,
      fun g ds => VCcall E g ds st fun d s => dstOK s o.dst ∧ goL E Φ l (putO s o.dst d) K, fun r ds => VCyield E r ds st fun d s => dstOK s o.dst ∧ goL E Φ l (putO s o.dst d) K⟩
    match o.g with
    | none => run st
    | some (t, b) => guarded run (fun s => dstOK s o.dst ∧ goL E Φ l (putO s o.dst (.tup [])) K) st t b
theorem goL_ok {E : Env} {Φ : Fns} {ops : Array Oper} {K : St → Prop} : ∀ (l : List Oper) (st : St), goL E Φ (l.map (strip ops)) st K = goOps E Φ ops l st K
  | [], st => rfl
  | o :: l, st => by
    have ih := fun st => goL_ok (E := E) (Φ := Φ) (ops := ops) (K := K) l st
    simp only [List.map_cons]
    unfold goL goOps
    obtain ⟨dst, op, ty, pos, after, g⟩ := o
    cases g with
    | none => simp only [strip, stripG, ih]
    | some jb =>
      obtain ⟨j, b⟩ := jb
      simp only [strip, stripG, ih]
section
variable {E : Env} {Φ : Fns} {l : List SO} {st s : St} {K : St → Prop} {dst : Option Nat}
/-- What follows an operation. -/
def goA (E : Env) (Φ : Fns) (dst : Option Nat) (l : List SO) (st : St) (K : St → Prop) (r : Ans) : Prop :=
  r.ok st ⟨fun d s => dstOK s dst ∧ goL E Φ l (putO s dst d) K, fun s => dstOK s dst ∧ goL E Φ l (putO s dst (.tup [])) K,
    fun g ds => VCcall E g ds st fun d s => dstOK s dst ∧ goL E Φ l (putO s dst d) K, fun r ds => VCyield E r ds st fun d s => dstOK s dst ∧ goL E Φ l (putO s dst d) K⟩
def goB (E : Env) (Φ : Fns) (o : SO) (l : List SO) (st : St) (K : St → Prop) (t : Nat) (b : Bool) (d : D) : Prop :=
  match d with
  | .dat (.bool c) => (c = b → goA E Φ o.dst l (st.put t (.dat (.bool b))) K (ev E Φ (st.put t (.dat (.bool b))) o.op)) ∧ (c = !b → dstOK (st.put t (.dat (.bool !b))) o.dst ∧ goL E Φ l (putO (st.put t (.dat (.bool !b))) o.dst (.tup [])) K)
  | .tup [] => dstOK st o.dst ∧ goL E Φ l (putO st o.dst (.tup [])) K
  | _ => False
/-- The rest of a region, behind a call. -/
def Rest (E : Env) (Φ : Fns) (dst : Option Nat) (l : List SO) (K : St → Prop) (d : D) (s : St) : Prop := dstOK s dst ∧ goL E Φ l (putO s dst d) K
theorem goL_nil : goL E Φ [] st K = K st := rfl
theorem goL_cons {op : Op} : goL E Φ (⟨dst, op, none⟩ :: l) st K = goA E Φ dst l st K (ev E Φ st op) := rfl
theorem goL_guard {op : Op} {b : Bool} {t : Nat} : goL E Φ (⟨dst, op, some (some t, b)⟩ :: l) st K = goB E Φ ⟨dst, op, some (some t, b)⟩ l st K t b (look st.c.t t) := by
  unfold goL
  simp only [guarded, goB]
  cases look st.c.t t with
  | dat d => cases d <;> rfl
  | tup cs => cases cs <;> rfl
  | _ => rfl
theorem goA_go {d : D} : goA E Φ dst l st K (.go d s) = (dstOK s dst ∧ goL E Φ l (putO s dst d) K) := rfl
theorem goA_skip : goA E Φ dst l st K (.skip s) = (dstOK s dst ∧ goL E Φ l (putO s dst (.tup [])) K) := rfl
theorem goA_req {p : Prop} {r : Ans} : goA E Φ dst l st K (.req p r) = (p ∧ goA E Φ dst l st K r) := rfl
theorem goA_all {q : Bool → Prop} {f : Bool → D} (h1 : q true → goA E Φ dst l st K (.go (f true) st)) (h2 : q false → goA E Φ dst l st K (.go (f false) st)) : goA E Φ dst l st K (.all q f) := by
  intro b
  cases b
  · exact h2
  · exact h1
theorem goA_split {c : Bool} {x y : D} (h1 : c = true → goA E Φ dst l st K (.go x st)) (h2 : c = false → goA E Φ dst l st K (.go y st)) : goA E Φ dst l st K (.split c x y) := ⟨h1, h2⟩
theorem goA_splitT {x y : D} : goA E Φ dst l st K (.split true x y) = goA E Φ dst l st K (.go x st) := by
  refine propext ⟨fun h => h.1 rfl, fun h => ⟨fun _ => h, fun e => by cases e⟩⟩
theorem goA_splitF {x y : D} : goA E Φ dst l st K (.split false x y) = goA E Φ dst l st K (.go y st) := by
  refine propext ⟨fun h => h.2 rfl, fun h => ⟨(fun e => by cases e), fun _ => h⟩⟩
theorem goB_split {o : SO} {t : Nat} {b c : Bool} (h1 : c = true → goB E Φ o l st K t b (.dat (.bool true))) (h2 : c = false → goB E Φ o l st K t b (.dat (.bool false))) : goB E Φ o l st K t b (.dat (.bool c)) := by
  cases c
  · exact h2 rfl
  · exact h1 rfl
theorem goB_splitD {o : SO} {t : Nat} {b : Bool} {p : Prop} [Decidable p] (h1 : p → goB E Φ o l st K t b (.dat (.bool true))) (h2 : ¬p → goB E Φ o l st K t b (.dat (.bool false))) : goB E Φ o l st K t b (.dat (.bool (decide p))) :=
  goB_split (fun h => h1 (of_decide_eq_true h)) fun h => h2 (of_decide_eq_false h)
theorem goA_splitD {p : Prop} [Decidable p] {x y : D} (h1 : p → goA E Φ dst l st K (.go x st)) (h2 : ¬p → goA E Φ dst l st K (.go y st)) : goA E Φ dst l st K (.split (decide p) x y) :=
  goA_split (fun h => h1 (of_decide_eq_true h)) fun h => h2 (of_decide_eq_false h)
theorem goB_TT {o : SO} {t : Nat} : goB E Φ o l st K t true (.dat (.bool true)) = goA E Φ o.dst l (st.put t (.dat (.bool true))) K (ev E Φ (st.put t (.dat (.bool true))) o.op) := by simp [goB]
theorem goB_FF {o : SO} {t : Nat} : goB E Φ o l st K t false (.dat (.bool false)) = goA E Φ o.dst l (st.put t (.dat (.bool false))) K (ev E Φ (st.put t (.dat (.bool false))) o.op) := by simp [goB]
theorem goB_TF {o : SO} {t : Nat} : goB E Φ o l st K t true (.dat (.bool false)) = (dstOK (st.put t (.dat (.bool false))) o.dst ∧ goL E Φ l (putO (st.put t (.dat (.bool false))) o.dst (.tup [])) K) := by simp [goB]
theorem goB_FT {o : SO} {t : Nat} : goB E Φ o l st K t false (.dat (.bool true)) = (dstOK (st.put t (.dat (.bool true))) o.dst ∧ goL E Φ l (putO (st.put t (.dat (.bool true))) o.dst (.tup [])) K) := by simp [goB]
theorem goB_U {o : SO} {t : Nat} {b : Bool} : goB E Φ o l st K t b (.tup []) = (dstOK st o.dst ∧ goL E Φ l (putO st o.dst (.tup [])) K) := rfl
theorem goA_call {g : Nat} {ds : List D} : goA E Φ dst l st K (.call g ds) = VCcall E g ds st (Rest E Φ dst l K) := rfl
theorem goA_yield {r : Nat} {ds : List D} : goA E Φ dst l st K (.yield r ds) = VCyield E r ds st (Rest E Φ dst l K) := rfl
theorem goA_stop : goA E Φ dst l st K .stop = False := rfl
end
theorem evBox_eq {E : Env} {st : St} {site : Nat} {x : D} : evBox E st site x = match cellsD x with
  | some cs => .req (st.noMark site) (.st (.ref site 0) (st.add site (.cells (D.erases site cs) false)))
  | none => .stop := rfl
theorem VC.reg {E : Env} {Φ : Fns} {ρ : Option Nat} {st : St} {K : Exit → St → Prop} {id : Nat} {ops : Array Oper} {y : Code} (hΦ : Sound E Φ)
    (h : ∀ K' : St → Prop, (∀ s, VC E ρ y s K → K' s) → goL E Φ (ops.toList.map (strip ops)) st K') : VC E ρ (.seq (.region id ops false) y) st K := VC.seq (VC.region hΦ fun K' hK => goL_ok _ _ ▸ h K' hK)
theorem VC.regLast {E : Env} {Φ : Fns} {ρ : Option Nat} {st : St} {K : Exit → St → Prop} {id : Nat} {ops : Array Oper} (hΦ : Sound E Φ)
    (h : ∀ K' : St → Prop, (∀ s, K .normal s → K' s) → goL E Φ (ops.toList.map (strip ops)) st K') : VC E ρ (.region id ops false) st K := VC.region hΦ fun K' hK => goL_ok _ _ ▸ h K' hK
/-- A region, and what is kept behind it. -/
theorem VC.regk {E : Env} {Φ : Fns} {ρ : Option Nat} {st : St} {K : Exit → St → Prop} {id : Nat} {ops : Array Oper} {y : Code} (hΦ : Sound E Φ) (ts ls : List Nat)
    (h : ∀ K' : St → Prop, (∀ s, VC E ρ y (s.only ts ls) K → K' s) → goL E Φ (ops.toList.map (strip ops)) st K') : VC E ρ (.seq (.region id ops false) y) st K :=
  VC.reg hΦ fun K' hK => h K' fun s hs => hK s (hs.ent (Ent.only s ts ls))
theorem allL_nil {α : Type} {p : α → Prop} : (∀ x ∈ ([] : List α), p x) = True := by simp
theorem allL_cons {α : Type} {p : α → Prop} {a : α} {l : List α} : (∀ x ∈ a :: l, p x) = (p a ∧ ∀ x ∈ l, p x) := by simp
attribute [go_sem] decide_eq_true_eq decide_eq_false_iff_not decide_true decide_false
attribute [go_sem] List.nodup_nil List.nodup_cons Ty.agg allL_nil allL_cons false_imp_iff implies_true
attribute [go_sem] goL_nil goL_cons goL_guard goA_go goA_skip goA_req goA_splitT goA_splitF goA_call goA_yield goA_stop goB_TT goB_FF goB_TF goB_FT goB_U
attribute [go_sem] putO dstOK St.put Fr.put look find evO ev evOs evPick evIface evExtract evBuiltin evCall evFn evGo evConvert
attribute [go_sem] Res.ans Res2.ans ResU.ans evEq isNilC isC D.one D.isNili D.isAgg evNilCheck
attribute [go_sem] constD constA evBox evAlloc cellsD evField evFieldAddr partD fieldT evLoad ofCells evStore splice datasOf dataOf
attribute [go_sem] evIndexAddr evIndex evSlice sliceLo sliceHi evInt evStr evFields evBin evNil evBinS evUn evMax evMin evLen rdD evConv u8s evBytes
attribute [go_sem] evBuild partsD fillD evBuildSlice initD chunks evMake evAppend evAppendRow frz frzs retD
attribute [go_sem] St.add St.erase St.setB hSet hErase Fr.erase Tm.erase frsErase Blk.erase D.erase D.erases fresh freshN St.noMark noMark
attribute [go_sem] Data.one Bool.false_and Bool.and_false Bool.true_and Bool.and_true Bool.or_true Bool.true_or Bool.or_false Bool.false_or Bool.not_false Bool.not_true Bool.false_eq_true Bool.and_self Bool.or_self
attribute [go_sem] Option.map_some Option.map_none Option.isSome_some Option.isSome_none List.all_cons List.all_nil List.length_cons List.length_nil List.set_cons_zero List.set_cons_succ List.getElem?_cons_zero List.getElem?_cons_succ List.getElem?_nil List.take_zero List.take_succ_cons List.take_nil List.drop_zero List.drop_succ_cons List.drop_nil List.append_nil List.nil_append List.cons_append
attribute [go_sem] List.map_cons List.map_nil not_false_eq_true List.not_mem_nil and_true true_and
attribute [go_sem] condK thenK blockK pT St.enter pureSt keepT St.keep St.only keepH
end Go.Proofs.YtfbodageccednaaDoor.Vm
namespace Go.Proofs.YtfbodageccednaaDoor.Vm
open Go Go.RowKit
/-! ### Operations that only compute, reckoned apart from the state -/
mutual
def qD : D → Option Data
  | .dat d => some d
  | .nilsl => some (.lst [])
  | .agg cs => match qDs cs with
    | some ds => some (.agg ds)
    | none => none
  | .fn f [] [] => some (.fn f)
  | _ => none
def qDs : List D → Option (List Data)
  | [] => some []
  | d :: ds => match qD d with
    | some x => match qDs ds with
      | some xs => some (x :: xs)
      | none => none
    | none => none
end
mutual
theorem qD_frz (st : St) : ∀ (d : D) {x : Data}, qD d = some x → frz st d = some (x, st)
  | .dat d, x, h => by simp only [qD, Option.some.injEq] at h; subst h; simp only [frz]
  | .nilsl, x, h => by simp only [qD, Option.some.injEq] at h; subst h; simp only [frz]
  | .agg cs, x, h => by
    simp only [qD] at h
    split at h
    · rename_i ds hd
      simp only [Option.some.injEq] at h; subst h
      simp only [frz, qDs_frzs st cs hd]
    · cases h
  | .fn f xs ys, x, h => by
    cases xs <;> cases ys <;> simp only [qD, Option.some.injEq] at h
    · subst h; simp only [frz]
    all_goals cases h
  | .junk, x, h => by simp only [qD] at h; cases h
  | .ref _ _, x, h => by simp only [qD] at h; cases h
  | .sl _ _ _, x, h => by simp only [qD] at h; cases h
  | .eref _ _ _, x, h => by simp only [qD] at h; cases h
  | .tup _, x, h => by simp only [qD] at h; cases h
  | .yld _, x, h => by simp only [qD] at h; cases h
theorem qDs_frzs (st : St) : ∀ (ds : List D) {xs : List Data}, qDs ds = some xs → frzs st ds = some (xs, st)
  | [], xs, h => by simp only [qDs, Option.some.injEq] at h; subst h; simp only [frzs]
  | d :: ds, xs, h => by
    simp only [qDs] at h
    split at h
    · rename_i x hx
      split at h
      · rename_i ys hys
        simp only [Option.some.injEq] at h; subst h
        simp only [frzs, qD_frz st d hx, qDs_frzs st ds hys]
      · cases h
    · cases h
end
inductive QA where
  | val (d : D)
  | req (p : Prop) (r : QA)
  | all (q : Bool → Prop) (f : Bool → D)
  | split (c : Bool) (x y : D)
  | stop
def QA.ok (K : D → Prop) : QA → Prop
  | .val d => K d
  | .req p r => p ∧ r.ok K
  | .all q f => ∀ b, q b → K (f b)
  | .split c x y => (c = true → K x) ∧ (c = false → K y)
  | .stop => False
def Res.q : Res → QA
  | .val d => .val d
  | .st _ _ => .stop
  | .req p r => .req p r.q
  | .stop => .stop
def Res2.q : Res2 → QA
  | .val d => .val d
  | .req p d => .req p (.val d)
  | .all q f => .all q f
  | .stop => .stop
def evBuildF (E : Env) (t : TypeId) (ps : List (Nat × D)) : Res :=
  match zeroT E.P t, kindT E.P t with
  | some zs, .struct fs => match fillD (fun i => (fs[i]?).map fun f => (f.1, szT E.P f.2)) zs ps with
    | some cs => .req (∀ f ∈ fs, kindT E.P f.2 ≠ .other) (.val (.agg cs))
    | none => .stop
  | some zs, .arr _ e => match fillD (fun i => some (i * szT E.P e, szT E.P e)) zs ps with
    | some cs => .req (kindT E.P e ≠ .other) (.val (.agg cs))
    | none => .stop
  | _, _ => .stop
theorem evBuild_eq (E : Env) (st : St) (t : TypeId) (ps : List (Nat × Operand)) : evBuild E st t ps = evBuildF E t (ps.map fun p => (p.1, evO E st p.2)) := rfl
def quietS (P : D → Prop) (st : St) : Behind := ⟨fun d s => s = st ∧ P d, fun _ => False, fun _ _ => False, fun _ _ => False⟩
theorem Res.q_ok {P : D → Prop} {st : St} : ∀ {r : Res}, r.q.ok P → (r.ans st).ok st (quietS P st)
  | .val d, h => ⟨rfl, h⟩
  | .st d s, h => h.elim
  | .req p r, h => ⟨h.1, Res.q_ok (r := r) h.2⟩
  | .stop, h => h
theorem Res2.q_ok {P : D → Prop} {st : St} : ∀ {r : Res2}, r.q.ok P → (r.ans st).ok st (quietS P st)
  | .val d, h => ⟨rfl, h⟩
  | .req p d, h => ⟨h.1, rfl, h.2⟩
  | .all q f, h => fun b hb => ⟨rfl, h b hb⟩
  | .stop, h => h
end Go.Proofs.YtfbodageccednaaDoor.Vm


/- An abstract machine over values, that the program's machine follows it, and its rules (X02). No condition. -/
import Derived.Test.YtpajpkbipagjpaaGreatDoorX01
import Derived.RangeFuncRecord
import Derived.OrdersIn
import Derived.RangeFuncIn
import Derived.Laws.IdiomCopy
set_option linter.unusedVariables false
set_option linter.unusedSimpArgs false
namespace Go.Proofs.YtpajpkbipagjpaaGreatDoor.Vm
open Go Go.RowKit
section
variable {Γ : Ctx} {st : St} {a : Act} {as : List Act} {β : Nat → Pl} {w : World}
theorem Sim.gone (S : Sim Γ st a as β w) {l b c sz : Nat} {B : Blk} {w' : World} (hf : find st.h l = some B) (hb : β l = .blk b c sz) (hB : ∀ o, Mut β l B b o) (hsize : w'.heap.size = w.heap.size)
 (hother : ∀ k, k ≠ b → w'.heap[k]? = w.heap[k]?) (hbelow : Below Γ.w0.heap.size Γ.w0 w') {h' : List (Nat × Blk)} (hh : ∀ k B', find h' k = some B' → k ≠ l ∧ find st.h k = some B') :
 Sim Γ ⟨st.c, st.s, h'⟩ a as β w' := by
 have K : Keeps w (Im Γ β st.h w) w' (Im Γ β h' w') := by
  intro b' o h
  have hne : b' ≠ b := by
   intro e
   subst e
   rcases h with h | ⟨_, _, h3⟩
   ·have := S.hJ _ _ h
    have := (S.lt hf hb).2
    omega
   ·exact h3 l B hf (hB o)
  refine ⟨?_, cell_of_heap (hother b' hne) o⟩
  rcases h with h | ⟨h1, h2, h3⟩
  ·exact .inl h
  ·exact .inr ⟨h1, by omega, fun k B' hB' => h3 k B' (hh k B' hB').2⟩
 refine ⟨hbelow, S.hJ, S.glob.keeps K, ?_, S.cur.keeps K, S.stk.keeps K, ?_⟩
 ·intro k k' B1 B2 b1 c1 c' s s' h1 h2 e1 e2
  exact S.apart k k' B1 B2 b1 c1 c' s s' (hh _ _ h1).2 (hh _ _ h2).2 e1 e2
 ·intro k B' hB'
  refine (S.heap k B' (hh k B' hB').2).keep K fun b1 c1 s1 e1 => hother b1 fun e => ?_
  subst e
  exact (hh k B' hB').1 (S.apart k l B' B _ c1 c s1 sz (hh k B' hB').2 hf e1 hb)
def dropH (ms : List Nat) (h : List (Nat × Blk)) : List (Nat × Blk) := ms.foldl (fun h l => h.filter fun x => !(x.1 == l)) h
theorem find_filter (l : Nat) : ∀ (h : List (Nat × Blk)) (k : Nat) (B : Blk), find (h.filter fun x => !(x.1 == l)) k = some B → k ≠ l ∧ find h k = some B
 | [], k, B, hf => by simp [find] at hf
 | x :: r, k, B, hf => by
   simp only [List.filter_cons] at hf
   split at hf
   ·rename_i hx
    simp only [find] at hf ⊢
    by_cases e : x.1 = k
    ·rw [if_pos e] at hf ⊢
     refine ⟨?_, hf⟩
     rintro rfl
     simp [e] at hx
    ·rw [if_neg e] at hf ⊢
     exact find_filter l r k B hf
   ·rename_i hx
    obtain ⟨h1, h2⟩ := find_filter l r k B hf
    refine ⟨h1, ?_⟩
    simp only [find]
    rw [if_neg]
    ·exact h2
    ·rintro rfl
     simp at hx
     exact h1 hx
theorem find_filter_ne (l : Nat) : ∀ (h : List (Nat × Blk)) (k : Nat), k ≠ l → find (h.filter fun x => !(x.1 == l)) k = find h k
 | [], k, _ => rfl
 | x :: r, k, hk => by
   simp only [List.filter_cons]
   split
   ·simp only [find, find_filter_ne l r k hk]
   ·rename_i hx
    simp only [find]
    rw [if_neg, find_filter_ne l r k hk]
    rintro rfl
    simp at hx
    exact hk hx
theorem Below.put {n : Nat} {w : World} {w0 : World} {b : Nat} {o : Obj} (h : Below n w0 w) (hb : n ≤ b) : Below n w0 (w.putObj b o) := by
 refine ⟨h.os, h.tape, h.output, by simpa [World.putObj] using h.size, fun i hi => ?_⟩
 rw [World.putObj_heap_other (by omega)]
 exact h.block i hi
theorem leaves_ok {fn : Func} {R : Ending → World → Prop} : ∀ (m : List Nat) {st : St} {w : World} (S : Sim Γ st a as β w), (∀ l ∈ m, find st.h l = some .defer) → m.Nodup →
 (∀ w', Sim Γ ⟨st.c, st.s, dropH m st.h⟩ a as β w' → LeavesIn (Fw none) 0 Γ.P fn a.tmps R [] .returning w') →
 LeavesInM (Fw none) 0 Γ.P fn a.tmps R (m.map fun l => { target := .collected (match β l with | .blk b _ _ => b | .nil => 0), args := #[] }) .returning w
 | [], st, w, S, _, _, h => h w S
 | l :: m, st, w, S, hl, hd, h => by
   have hf := hl l (by simp)
   obtain ⟨b, c, sz, hb, hge, hh⟩ := S.heap l _ hf
   rw [List.map_cons, LeavesInM]
   refine ⟨(fun e => by cases e), .inl ⟨b, w.putObj b (.deferred none), ?_, run_takeDeferred hh, ?_⟩⟩
   ·simp [hb]
   ·have hlt := heap_lt hh
    have S' : Sim Γ ⟨st.c, st.s, st.h.filter fun x => !(x.1 == l)⟩ a as β (w.putObj b (.deferred none)) :=
     S.gone hf hb (fun o => ⟨c, sz, hb⟩) (by simp [World.putObj]) (fun k hk => World.putObj_heap_other hk) (Below.put S.below hge) (find_filter l st.h)
    refine leaves_ok m S' (fun k hk => ?_) (List.nodup_cons.1 hd).2 h
    show find (st.h.filter fun x => !(x.1 == l)) k = some .defer
    rw [find_filter_ne l st.h k]
    ·exact hl k (by simp [hk])
    ·rintro rfl
     exact (List.nodup_cons.1 hd).1 hk
def pT : Nat → List D → Tm
 | _, [] => []
 | i, d :: ds => (i, d) :: pT (i + 1) ds
theorem look_pT : ∀ (ds : List D) (i t : Nat), look (pT i ds) t = if i ≤ t then ds.getD (t - i) .junk else .junk
 | [], i, t => by simp [pT, look]
 | d :: ds, i, t => by
   simp only [pT, look]
   by_cases e : i = t
   ·subst e; simp
   ·rw [if_neg e, look_pT ds (i + 1) t]
    by_cases h : i ≤ t
    ·rw [if_pos h, if_pos (by omega), show t - i = (t - (i + 1)) + 1 by omega]; simp
    ·rw [if_neg h, if_neg (by omega)]
def St.enter (st : St) (n : Nat) (ds : List D) : St := ⟨⟨n, pT 0 ds, []⟩, st.c :: st.s, st.h⟩
theorem enter_frame {w : World} {I : Cset} {ds : List D} {args : Array Value} {n : Nat} (h : RVDs w I β ds args.toList) (hn : ds.length ≤ n) : FrOK w I β ⟨n, pT 0 ds, []⟩ { tmps := args ++ Array.replicate (n - args.size) undef, defers := [] } := by
 have hl : args.size = ds.length := by have := h.length; simpa using this
 refine ⟨by simp [hl]; omega, fun t => ?_, rfl⟩
 show RVD w I β (look (pT 0 ds) t) _
 rw [look_pT, if_pos (Nat.zero_le _), Nat.sub_zero]
 rcases Nat.lt_or_ge t ds.length with ht | ht
 ·obtain ⟨v, h1, h2⟩ := h.at t ds[t] (List.getElem?_eq_getElem ht)
  have e1 : ds.getD t .junk = ds[t] := by simp [List.getD, ht]
  have e2 : (args ++ Array.replicate (n - args.size) undef).getD t undef = v := by
   have h3 : args[t]? = some v := by simpa using h1
   rw [Array.getD_eq_getD_getElem?, Array.getElem?_append_left (by omega), h3]; rfl
  rw [e1]
  show RVD w I β _ ((args ++ Array.replicate (n - args.size) undef).getD t undef)
  rw [e2]; exact h2
 ·have e1 : ds.getD t .junk = .junk := by simp [List.getD, List.getElem?_eq_none ht]
  rw [e1]; simp only [RVD]
def retS (P : Program) (rs : List ResultVar) (K : D → St → Prop) (s : St) : Prop :=
 (∀ l ∈ s.c.m, find s.h l = some .defer) ∧ s.c.m.Nodup ∧
  match resD P ⟨s.c, s.s, dropH s.c.m s.h⟩ rs, s.s with
  | some ds, f :: r => K (tupD ds) ⟨f, r, dropH s.c.m s.h⟩
  | _, _ => False
def retK (P : Program) (rs : List ResultVar) (K : D → St → Prop) : Exit → St → Prop
 | .normal, s => retS P rs K s
 | .ret, s => retS P rs K s
 | _, _ => False
end
section
variable {E : Env} {st : St}
theorem VCcall.enter {g : Nat} {ds : List D} {K : D → St → Prop} {fn : Func} {c : Code} {rs : List ResultVar} {n : Nat} (hf : E.P.funcs[g]? = some fn) (hb : fn.body = some c) (hrs : fn.results.toList = rs) (hnt : fn.ntmps = n) (hn : ds.length ≤ n)
 (h : VC E none c (st.enter n ds) (retK E.P rs K)) : VCcall E g ds st K := by
 intro Γ a as β w args hΓ S hargs
 subst hΓ
 subst hrs
 subst hnt
 have S1 : Sim Γ (st.enter fn.ntmps ds) { tmps := args ++ Array.replicate (fn.ntmps - args.size) undef, defers := [] } (a :: as) β w :=
  ⟨S.below, S.hJ, S.glob, S.apart, enter_frame hargs hn, ⟨a, as, rfl, S.cur, S.stk⟩, S.heap⟩
 refine callsIn_of_wp_marks hf hb trivial (wpIn_mono (h Γ _ (a :: as) β w rfl S1) ?_)
 rintro e a' w' ⟨s, β', S', k⟩
 have ret : retS Γ.P fn.results.toList K s → LeavesInM (Fw none) 0 Γ.P fn a'.tmps (Back Γ a as K) a'.defers .returning w' := by
  rintro ⟨k1, k2, k3⟩
  rw [S'.cur.2.2]
  refine leaves_ok s.c.m S' k1 k2 fun w'' S'' => ?_
  split at k3
  ·rename_i ds' f r hds hs
   obtain ⟨v, h1, h2⟩ := results_ok S'' (fn := fn) hds
   refine ⟨v, h1, v, tupD ds', ⟨f, r, dropH s.c.m s.h⟩, β', rfl, ?_, h2, k3⟩
   have hst := S''.stk
   simp only [hs, FrsOK] at hst
   obtain ⟨a1, as1, e1, h3, h4⟩ := hst
   injection e1 with e1 e2
   subst e1 e2
   exact ⟨S''.below, S''.hJ, S''.glob, S''.apart, h3, h4, S''.heap⟩
  ·exact k3.elim
 cases e with
 | normal => exact ret k
 | ret => exact ret k
 | _ => exact k.elim
end
end Go.Proofs.YtpajpkbipagjpaaGreatDoor.Vm
namespace Go.Proofs.YtpajpkbipagjpaaGreatDoor.Vm
open Go Go.RowKit
def pureS (P : Program) (rs : List ResultVar) (res : List Data) (s : St) : Prop :=
 (∀ l ∈ s.c.m, find s.h l = some .defer) ∧ s.c.m.Nodup ∧
  match resD P ⟨s.c, s.s, dropH s.c.m s.h⟩ rs with
  | some ds => match frzs ⟨s.c, s.s, dropH s.c.m s.h⟩ ds with
    | some (xs, _) => xs = res
    | none => False
  | none => False
def pureK (P : Program) (rs : List ResultVar) (res : List Data) : Exit → St → Prop
 | .normal, s => pureS P rs res s
 | .ret, s => pureS P rs res s
 | _, _ => False
def pureSt (n : Nat) (ds : List Data) : St := ⟨⟨n, pT 0 (ds.map .dat), []⟩, [], []⟩
theorem RVs.dats {w : World} {I : Cset} {β : Nat → Pl} : ∀ {ds : List Data} {vs : List Value}, RVs w I ds vs → RVDs w I β (ds.map .dat) vs
 | [], vs, h => h
 | d :: ds, vs, h => by
   simp only [RVs] at h
   simp only [List.map_cons, RVDs]
   obtain ⟨v, r, rfl, h1, h2⟩ := h
   exact ⟨v, r, rfl, h1, RVs.dats h2⟩
theorem Pure.of_body {E : Env} {g : Nat} {pf : PFn} {fn : Func} {c : Code} {rs : List ResultVar} {n : Nat} (hf : E.P.funcs[g]? = some fn) (hb : fn.body = some c) (hrs : fn.results.toList = rs) (hnt : fn.ntmps = n)
 (h : ∀ ds, pf.pre ds → ds.length ≤ n ∧ VC E none c (pureSt n ds) (pureK E.P rs (pf.res ds))) : Pure E g pf := by
 subst hrs
 subst hnt
 intro w J args ds hJ hG hargs hpre
 obtain ⟨hlen, hvc⟩ := h ds hpre
 let Γ : Ctx := ⟨E, w, J, fun _ => 0⟩
 have hK : Keeps w J w (Im Γ (fun _ => .nil) [] w) := fun b o hj => ⟨.inl hj, rfl⟩
 have S : Sim Γ (pureSt fn.ntmps ds) { tmps := args ++ Array.replicate (fn.ntmps - args.size) undef, defers := [] } [] (fun _ => .nil) w := by
  refine ⟨Below.refl _ _, hJ, hG.keeps hK, ?_, ?_, ?_, ?_⟩
  ·intro l l' B B' b c c' sz sz' h1; simp [pureSt, find] at h1
  ·exact enter_frame (RVs.dats (RVs.keeps hK _ _ hargs)) (by simpa using hlen)
  ·exact rfl
  ·intro l B hB; simp [pureSt, find] at hB
 refine callsIn_of_wp_marks hf hb trivial (wpIn_mono (hvc Γ _ [] _ w rfl S) ?_)
 rintro e a' w' ⟨s, β', S', k⟩
 have ret : pureS E.P fn.results.toList (pf.res ds) s → LeavesInM (Fw none) 0 E.P fn a'.tmps (fun e w' => ∃ v, e = .returned v ∧ Below w.heap.size w w' ∧ RVD w' (Fresh J w w') (fun _ => .nil) (retD (pf.res ds)) v) a'.defers .returning w' := by
  rintro ⟨k1, k2, k3⟩
  rw [S'.cur.2.2]
  refine leaves_ok (Γ := Γ) s.c.m S' k1 k2 fun w'' S'' => ?_
  split at k3
  ·rename_i ds' hds
   obtain ⟨v, h1, h2⟩ := results_ok S'' (fn := fn) hds
   refine ⟨v, h1, v, rfl, S''.below, ?_⟩
   split at k3
   ·rename_i xs st' hfz
    rw [← k3]
    have fin : ∀ {vs : List Value}, RVDs w'' (Im Γ β' (dropH s.c.m s.h) w'') β' ds' vs → RVs w'' (Fresh J w w'') xs vs := by
     intro vs hvs
     obtain ⟨⟨S3, _⟩, h3⟩ := frzs_ok ds' S'' hvs hfz
     refine RVs.keeps ?_ _ _ h3
     intro b o hi
     refine ⟨?_, rfl⟩
     rcases hi with hi | ⟨g1, g2, _⟩
     ·exact .inl hi
     ·exact .inr ⟨g1, g2⟩
    have hlx : xs.length = ds'.length := by
     have aux : ∀ (ds : List D) (st st' : St) (xs : List Data), frzs st ds = some (xs, st') → xs.length = ds.length := by
      intro ds
      induction ds with
      | nil => intro st st' xs h; simp only [frzs, Option.some.injEq, Prod.mk.injEq] at h; rw [← h.1]; rfl
      | cons d ds ih =>
        intro st st' xs h
        simp only [frzs] at h
        split at h
        ·split at h
         ·rename_i h2
          simp only [Option.some.injEq, Prod.mk.injEq] at h
          rw [← h.1]
          simp [ih _ _ _ h2]
         ·cases h
        ·cases h
     exact aux _ _ _ _ hfz
    unfold tupD at h2
    split at h2
    ·rename_i d
     obtain ⟨x, rfl⟩ := List.length_eq_one_iff.1 (hlx.trans rfl)
     have := fin (vs := [v]) (by simp only [RVDs]; exact ⟨v, [], rfl, h2, rfl⟩)
     simp only [RVs] at this
     obtain ⟨v', r, e, h4, _⟩ := this
     injection e with e1 e2; subst e1
     simp only [retD, RVD]; exact h4
    ·rename_i hne
     simp only [RVD] at h2
     obtain ⟨vs, rfl, h2⟩ := h2
     have h3 := fin h2
     unfold retD
     split
     ·rename_i x
      obtain ⟨d, rfl⟩ := List.length_eq_one_iff.1 (hlx.symm.trans rfl)
      exact absurd rfl (hne d)
     ·simp only [RVD]
      exact ⟨vs, rfl, RVs.dats h3⟩
   ·exact k3.elim
  ·exact k3.elim
 cases e with
 | normal => exact ret k
 | ret => exact ret k
 | _ => exact k.elim
end Go.Proofs.YtpajpkbipagjpaaGreatDoor.Vm
namespace Go.Proofs.YtpajpkbipagjpaaGreatDoor.Vm
open Go Go.RowKit
structure SO where
 dst : Option Nat
 op : Op
 g : Option (Option Nat × Bool)
def stripG (ops : Array Oper) : Option (Nat × Bool) → Option (Option Nat × Bool)
 | none => none
 | some (j, b) => some (gtmp ops j, b)
def strip (ops : Array Oper) (o : Oper) : SO := ⟨o.dst, o.op, stripG ops o.guard⟩
def goL (E : Env) (Φ : Fns) : List SO → St → (St → Prop) → Prop
 | [], st, K => K st
 | o :: l, st, K =>
   let run : St → Prop := fun st => (ev E Φ st o.op).ok st ⟨fun d s => dstOK s o.dst ∧ goL E Φ l (putO s o.dst d) K, fun s => dstOK s o.dst ∧ goL E Φ l (putO s o.dst (.tup [])) K,
    fun g ds => VCcall E g ds st fun d s => dstOK s o.dst ∧ goL E Φ l (putO s o.dst d) K, fun r ds => VCyield E r ds st fun d s => dstOK s o.dst ∧ goL E Φ l (putO s o.dst d) K⟩
   match o.g with
   | none => run st
   | some (t, b) => guarded run (fun s => dstOK s o.dst ∧ goL E Φ l (putO s o.dst (.tup [])) K) st t b
theorem goL_ok {E : Env} {Φ : Fns} {ops : Array Oper} {K : St → Prop} : ∀ (l : List Oper) (st : St), goL E Φ (l.map (strip ops)) st K = goOps E Φ ops l st K
 | [], st => rfl
 | o :: l, st => by
   have ih := fun st => goL_ok (E := E) (Φ := Φ) (ops := ops) (K := K) l st
   simp only [List.map_cons]
   unfold goL goOps
   obtain ⟨dst, op, ty, pos, after, g⟩ := o
   cases g with
   | none => simp only [strip, stripG, ih]
   | some jb =>
     obtain ⟨j, b⟩ := jb
     simp only [strip, stripG, ih]
section
variable {E : Env} {Φ : Fns} {l : List SO} {st s : St} {K : St → Prop} {dst : Option Nat}
def goA (E : Env) (Φ : Fns) (dst : Option Nat) (l : List SO) (st : St) (K : St → Prop) (r : Ans) : Prop :=
 r.ok st ⟨fun d s => dstOK s dst ∧ goL E Φ l (putO s dst d) K, fun s => dstOK s dst ∧ goL E Φ l (putO s dst (.tup [])) K,
  fun g ds => VCcall E g ds st fun d s => dstOK s dst ∧ goL E Φ l (putO s dst d) K, fun r ds => VCyield E r ds st fun d s => dstOK s dst ∧ goL E Φ l (putO s dst d) K⟩
def goB (E : Env) (Φ : Fns) (o : SO) (l : List SO) (st : St) (K : St → Prop) (t : Nat) (b : Bool) (d : D) : Prop :=
 match d with
 | .dat (.bool c) => (c = b → goA E Φ o.dst l (st.put t (.dat (.bool b))) K (ev E Φ (st.put t (.dat (.bool b))) o.op)) ∧ (c = !b → dstOK (st.put t (.dat (.bool !b))) o.dst ∧ goL E Φ l (putO (st.put t (.dat (.bool !b))) o.dst (.tup [])) K)
 | .tup [] => dstOK st o.dst ∧ goL E Φ l (putO st o.dst (.tup [])) K
 | _ => False
def Rest (E : Env) (Φ : Fns) (dst : Option Nat) (l : List SO) (K : St → Prop) (d : D) (s : St) : Prop := dstOK s dst ∧ goL E Φ l (putO s dst d) K
theorem goL_nil : goL E Φ [] st K = K st := rfl
theorem goL_cons {op : Op} : goL E Φ (⟨dst, op, none⟩ :: l) st K = goA E Φ dst l st K (ev E Φ st op) := rfl
theorem goL_guard {op : Op} {b : Bool} {t : Nat} : goL E Φ (⟨dst, op, some (some t, b)⟩ :: l) st K = goB E Φ ⟨dst, op, some (some t, b)⟩ l st K t b (look st.c.t t) := by
 unfold goL
 simp only [guarded, goB]
 cases look st.c.t t with
 | dat d => cases d <;> rfl
 | tup cs => cases cs <;> rfl
 | _ => rfl
theorem goA_go {d : D} : goA E Φ dst l st K (.go d s) = (dstOK s dst ∧ goL E Φ l (putO s dst d) K) := rfl
theorem goA_skip : goA E Φ dst l st K (.skip s) = (dstOK s dst ∧ goL E Φ l (putO s dst (.tup [])) K) := rfl
theorem goA_req {p : Prop} {r : Ans} : goA E Φ dst l st K (.req p r) = (p ∧ goA E Φ dst l st K r) := rfl
theorem goA_all {q : Bool → Prop} {f : Bool → D} (h1 : q true → goA E Φ dst l st K (.go (f true) st)) (h2 : q false → goA E Φ dst l st K (.go (f false) st)) : goA E Φ dst l st K (.all q f) := by
 intro b
 cases b
 ·exact h2
 ·exact h1
theorem goA_split {c : Bool} {x y : D} (h1 : c = true → goA E Φ dst l st K (.go x st)) (h2 : c = false → goA E Φ dst l st K (.go y st)) : goA E Φ dst l st K (.split c x y) := ⟨h1, h2⟩
theorem goA_splitT {x y : D} : goA E Φ dst l st K (.split true x y) = goA E Φ dst l st K (.go x st) := by
 refine propext ⟨fun h => h.1 rfl, fun h => ⟨fun _ => h, fun e => by cases e⟩⟩
theorem goA_splitF {x y : D} : goA E Φ dst l st K (.split false x y) = goA E Φ dst l st K (.go y st) := by
 refine propext ⟨fun h => h.2 rfl, fun h => ⟨(fun e => by cases e), fun _ => h⟩⟩
theorem goB_split {o : SO} {t : Nat} {b c : Bool} (h1 : c = true → goB E Φ o l st K t b (.dat (.bool true))) (h2 : c = false → goB E Φ o l st K t b (.dat (.bool false))) : goB E Φ o l st K t b (.dat (.bool c)) := by
 cases c
 ·exact h2 rfl
 ·exact h1 rfl
theorem goB_splitD {o : SO} {t : Nat} {b : Bool} {p : Prop} [Decidable p] (h1 : p → goB E Φ o l st K t b (.dat (.bool true))) (h2 : ¬p → goB E Φ o l st K t b (.dat (.bool false))) : goB E Φ o l st K t b (.dat (.bool (decide p))) :=
 goB_split (fun h => h1 (of_decide_eq_true h)) fun h => h2 (of_decide_eq_false h)
theorem goA_splitD {p : Prop} [Decidable p] {x y : D} (h1 : p → goA E Φ dst l st K (.go x st)) (h2 : ¬p → goA E Φ dst l st K (.go y st)) : goA E Φ dst l st K (.split (decide p) x y) :=
 goA_split (fun h => h1 (of_decide_eq_true h)) fun h => h2 (of_decide_eq_false h)
theorem goB_TT {o : SO} {t : Nat} : goB E Φ o l st K t true (.dat (.bool true)) = goA E Φ o.dst l (st.put t (.dat (.bool true))) K (ev E Φ (st.put t (.dat (.bool true))) o.op) := by simp [goB]
theorem goB_FF {o : SO} {t : Nat} : goB E Φ o l st K t false (.dat (.bool false)) = goA E Φ o.dst l (st.put t (.dat (.bool false))) K (ev E Φ (st.put t (.dat (.bool false))) o.op) := by simp [goB]
theorem goB_TF {o : SO} {t : Nat} : goB E Φ o l st K t true (.dat (.bool false)) = (dstOK (st.put t (.dat (.bool false))) o.dst ∧ goL E Φ l (putO (st.put t (.dat (.bool false))) o.dst (.tup [])) K) := by simp [goB]
theorem goB_FT {o : SO} {t : Nat} : goB E Φ o l st K t false (.dat (.bool true)) = (dstOK (st.put t (.dat (.bool true))) o.dst ∧ goL E Φ l (putO (st.put t (.dat (.bool true))) o.dst (.tup [])) K) := by simp [goB]
theorem goB_U {o : SO} {t : Nat} {b : Bool} : goB E Φ o l st K t b (.tup []) = (dstOK st o.dst ∧ goL E Φ l (putO st o.dst (.tup [])) K) := rfl
theorem goA_call {g : Nat} {ds : List D} : goA E Φ dst l st K (.call g ds) = VCcall E g ds st (Rest E Φ dst l K) := rfl
theorem goA_yield {r : Nat} {ds : List D} : goA E Φ dst l st K (.yield r ds) = VCyield E r ds st (Rest E Φ dst l K) := rfl
end
theorem VC.reg {E : Env} {Φ : Fns} {ρ : Option Nat} {st : St} {K : Exit → St → Prop} {id : Nat} {ops : Array Oper} {y : Code} (hΦ : Sound E Φ)
 (h : ∀ K' : St → Prop, (∀ s, VC E ρ y s K → K' s) → goL E Φ (ops.toList.map (strip ops)) st K') : VC E ρ (.seq (.region id ops false) y) st K := VC.seq (VC.region hΦ fun K' hK => goL_ok _ _ ▸ h K' hK)
theorem VC.regLast {E : Env} {Φ : Fns} {ρ : Option Nat} {st : St} {K : Exit → St → Prop} {id : Nat} {ops : Array Oper} (hΦ : Sound E Φ)
 (h : ∀ K' : St → Prop, (∀ s, K .normal s → K' s) → goL E Φ (ops.toList.map (strip ops)) st K') : VC E ρ (.region id ops false) st K := VC.region hΦ fun K' hK => goL_ok _ _ ▸ h K' hK
attribute [go_sem] decide_eq_true_eq decide_eq_false_iff_not decide_true decide_false
attribute [go_sem] List.nodup_nil List.nodup_cons Ty.agg false_imp_iff implies_true
attribute [go_sem] goL_nil goL_cons goL_guard goA_go goA_skip goA_req goA_splitT goA_splitF goA_call goA_yield goB_TT goB_FF goB_TF goB_FT goB_U
attribute [go_sem] putO dstOK St.put Fr.put look find evO ev evOs evPick evIface evExtract evBuiltin evCall evFn evGo evConvert
attribute [go_sem] Res.ans Res2.ans ResU.ans evEq isNilC isC D.one D.isNili D.isAgg evNilCheck
attribute [go_sem] constD constA evBox evAlloc cellsD evField evFieldAddr partD fieldT evLoad ofCells evStore splice datasOf dataOf
attribute [go_sem] clipD_zero evIndexAddr evIndex evSlice sliceLo sliceHi evInt evStr evFields evBin evNil evBinS evUn evMax evMin evLen rdD evConv u8s evBytes
attribute [go_sem] evBuild partsD fillD evBuildSlice initD chunks evMake evAppend evAppendRow frz frzs retD
attribute [go_sem] St.add St.erase St.setB hSet hErase Fr.erase Tm.erase frsErase Blk.erase D.erase D.erases fresh freshN St.noMark noMark
attribute [go_sem] Data.one Bool.false_and Bool.and_false Bool.true_and Bool.and_true Bool.or_true Bool.true_or Bool.or_false Bool.false_or Bool.not_false Bool.not_true Bool.false_eq_true Bool.and_self Bool.or_self
attribute [go_sem] Option.map_some Option.map_none Option.isSome_some Option.isSome_none List.all_cons List.all_nil List.length_cons List.length_nil List.set_cons_zero List.set_cons_succ List.getElem?_cons_zero List.getElem?_cons_succ List.getElem?_nil List.take_zero List.take_succ_cons List.take_nil List.drop_zero List.drop_succ_cons List.drop_nil List.append_nil List.nil_append List.cons_append
attribute [go_sem] List.map_cons List.map_nil not_false_eq_true List.not_mem_nil and_true true_and
attribute [go_sem] condK thenK blockK pT St.enter pureSt keepT St.keep
end Go.Proofs.YtpajpkbipagjpaaGreatDoor.Vm
namespace Go.Proofs.YtpajpkbipagjpaaGreatDoor.Vm
open Go Go.RowKit
mutual
def qD : D → Option Data
 | .dat d => some d
 | .nilsl => some (.lst [])
 | .agg cs => match qDs cs with
   | some ds => some (.agg ds)
   | none => none
 | .fn f [] [] => some (.fn f)
 | _ => none
def qDs : List D → Option (List Data)
 | [] => some []
 | d :: ds => match qD d with
   | some x => match qDs ds with
     | some xs => some (x :: xs)
     | none => none
   | none => none
end
mutual
theorem qD_frz (st : St) : ∀ (d : D) {x : Data}, qD d = some x → frz st d = some (x, st)
 | .dat d, x, h => by simp only [qD, Option.some.injEq] at h; subst h; simp only [frz]
 | .nilsl, x, h => by simp only [qD, Option.some.injEq] at h; subst h; simp only [frz]
 | .agg cs, x, h => by
   simp only [qD] at h
   split at h
   ·rename_i ds hd
    simp only [Option.some.injEq] at h; subst h
    simp only [frz, qDs_frzs st cs hd]
   ·cases h
 | .fn f xs ys, x, h => by
   cases xs <;> cases ys <;> simp only [qD, Option.some.injEq] at h
   ·subst h; simp only [frz]
   all_goals cases h
 | .junk, x, h => by simp only [qD] at h; cases h
 | .ref _ _, x, h => by simp only [qD] at h; cases h
 | .sl _ _ _, x, h => by simp only [qD] at h; cases h
 | .eref _ _ _, x, h => by simp only [qD] at h; cases h
 | .tup _, x, h => by simp only [qD] at h; cases h
 | .yld _, x, h => by simp only [qD] at h; cases h
theorem qDs_frzs (st : St) : ∀ (ds : List D) {xs : List Data}, qDs ds = some xs → frzs st ds = some (xs, st)
 | [], xs, h => by simp only [qDs, Option.some.injEq] at h; subst h; simp only [frzs]
 | d :: ds, xs, h => by
   simp only [qDs] at h
   split at h
   ·rename_i x hx
    split at h
    ·rename_i ys hys
     simp only [Option.some.injEq] at h; subst h
     simp only [frzs, qD_frz st d hx, qDs_frzs st ds hys]
    ·cases h
   ·cases h
end
inductive QA where
 | val (d : D)
 | req (p : Prop) (r : QA)
 | all (q : Bool → Prop) (f : Bool → D)
 | split (c : Bool) (x y : D)
 | stop
def QA.ok (K : D → Prop) : QA → Prop
 | .val d => K d
 | .req p r => p ∧ r.ok K
 | .all q f => ∀ b, q b → K (f b)
 | .split c x y => (c = true → K x) ∧ (c = false → K y)
 | .stop => False
def Res.q : Res → QA
 | .val d => .val d
 | .st _ _ => .stop
 | .req p r => .req p r.q
 | .stop => .stop
def Res2.q : Res2 → QA
 | .val d => .val d
 | .req p d => .req p (.val d)
 | .all q f => .all q f
 | .stop => .stop
def evBuildF (E : Env) (t : TypeId) (ps : List (Nat × D)) : Res :=
 match zeroT E.P t, kindT E.P t with
 | some zs, .struct fs => match fillD (fun i => (fs[i]?).map fun f => (f.1, szT E.P f.2)) zs ps with
   | some cs => .req (∀ f ∈ fs, kindT E.P f.2 ≠ .other) (.val (.agg cs))
   | none => .stop
 | some zs, .arr _ e => match fillD (fun i => some (i * szT E.P e, szT E.P e)) zs ps with
   | some cs => .req (kindT E.P e ≠ .other) (.val (.agg cs))
   | none => .stop
 | _, _ => .stop
theorem evBuild_eq (E : Env) (st : St) (t : TypeId) (ps : List (Nat × Operand)) : evBuild E st t ps = evBuildF E t (ps.map fun p => (p.1, evO E st p.2)) := rfl
def quietS (P : D → Prop) (st : St) : Behind := ⟨fun d s => s = st ∧ P d, fun _ => False, fun _ _ => False, fun _ _ => False⟩
theorem Res.q_ok {P : D → Prop} {st : St} : ∀ {r : Res}, r.q.ok P → (r.ans st).ok st (quietS P st)
 | .val d, h => ⟨rfl, h⟩
 | .st d s, h => h.elim
 | .req p r, h => ⟨h.1, Res.q_ok (r := r) h.2⟩
 | .stop, h => h
theorem Res2.q_ok {P : D → Prop} {st : St} : ∀ {r : Res2}, r.q.ok P → (r.ans st).ok st (quietS P st)
 | .val d, h => ⟨rfl, h⟩
 | .req p d, h => ⟨h.1, rfl, h.2⟩
 | .all q f, h => fun b hb => ⟨rfl, h b hb⟩
 | .stop, h => h
end Go.Proofs.YtpajpkbipagjpaaGreatDoor.Vm
namespace Go.Proofs.YtpajpkbipagjpaaGreatDoor.Vm
open Go Go.RowKit
def evQIface (E : Env) (t : TypeId) (x : D) : QA :=
 match kindT E.P t, x with
 | .iface, _ => .stop
 | .other, _ => .stop
 | _, .dat d => .val (.dat (.iface t d))
 | _, _ => .stop
def evQExtract (x : D) (i : Nat) : QA :=
 match x with
 | .tup cs => match cs[i]? with
   | some d => .val d
   | none => .stop
 | _ => .stop
def evQPick (c x y : D) : QA :=
 match c with
 | .dat (.bool b) => .split b x y
 | _ => .stop
def evQBuiltin (E : Env) (b : Builtin) (ts : List TypeId) (xs : List D) : QA :=
 match b, ts, xs with
 | .len, [t], [x] => (evLen E.P t x).q
 | .max, _, [x, y] => (evMax x y).q
 | .min, _, [x, y] => (evMin x y).q
 | _, _, _ => .stop
def evQFn (Φ : Fns) (f : D) (ds : List D) : QA :=
 match f with
 | .dat (.fn (.func g)) => match Φ g with
   | some p => match qDs ds with
     | some xs => .req (p.pre xs) (.val (retD (p.res xs)))
     | none => .stop
   | none => .stop
 | _ => .stop
def evQConv (E : Env) (st : St) (src dst : TypeId) (x : D) : QA :=
 match kindT E.P dst with
 | .slice _ => (evBytes E src dst x).q
 | _ => (evConv E.P st src dst x).q
def evQSlice (E : Env) (t : TypeId) (n : Nat) (ps : List (Nat × D)) : QA :=
 match kindT E.P t with
 | .slice e => match zeroT E.P e with
   | some zs => match fillD (fun i => some (i * szT E.P e, szT E.P e)) (initD zs (szT E.P e) n) ps with
     | some cs => match qDs cs with
       | some ds => .req (kindT E.P e ≠ .other ∧ zs.length = szT E.P e ∧ 0 < szT E.P e ∧ n * szT E.P e ≤ 16777216 ∧ ds.all Data.one = true ∧ ds.length = n * szT E.P e) (.val (.dat (.lst (chunks (szT E.P e) n ds))))
       | none => .stop
     | none => .stop
   | none => .stop
 | _ => .stop
theorem RE_chunks {w : World} {I : Cset} {b sz : Nat} : ∀ (n : Nat) (ds : List Data) (o : Nat), ds.length = n * sz → (∀ (j : Nat) (d : Data), ds[j]? = some d → ∃ v, w.cell? ⟨b, o + j, none⟩ = some v ∧ I b (o + j) ∧ d.one = true ∧ RV w I d v) → RE w I sz (chunks sz n ds) b o
 | 0, ds, o, h, hc => by simp only [chunks, RE]
 | n + 1, ds, o, h, hc => by
   rw [Nat.add_mul] at h
   simp only [chunks, RE]
   refine ⟨by simp; omega, RC.mk fun j d hj => ?_, RE_chunks n (ds.drop sz) (o + sz) (by simp; omega) fun j d hj => ?_⟩
   ·rw [List.getElem?_take] at hj
    split at hj
    ·exact hc j d hj
    ·cases hj
   ·rw [List.getElem?_drop] at hj
    have := hc (sz + j) d hj
    rwa [← Nat.add_assoc] at this
theorem good_sliceQ {Γ : Ctx} {st : St} {a : Act} {as : List Act} {β : Nat → Pl} {w : World} (S : Sim Γ st a as β w) {P : D → Prop} (t : TypeId) (n : Nat) (ps : List (Nat × Operand)) (h : (evQSlice Γ.toEnv t n (partsD Γ.toEnv st ps)).ok P) :
 Good Γ a as (Instr.buildSlice t n (ps.map fun p => (p.1, a.eval p.2)).toArray) w fun d s => s = st ∧ P d := by
 unfold evQSlice at h
 obtain ⟨hl, hp⟩ := parts_ok S ps
 split at h
 ·rename_i e hk
  have hu := underlying_slice (P := Γ.P) hk
  split at h
  ·rename_i zs hz
   split at h
   ·rename_i cs hf
    split at h
    ·rename_i ds hfr
     obtain ⟨⟨hne, hzl, hpos, hmax, hone, hdl⟩, hk'⟩ := h
     have hne : kindT Γ.P e ≠ .other := hne
     have hzl : zs.length = szT Γ.P e := hzl
     have hpos : 0 < szT Γ.P e := hpos
     have hmax : n * szT Γ.P e ≤ 16777216 := hmax
     have hdl : ds.length = n * szT Γ.P e := hdl
     obtain ⟨z, hrun, hzr, _⟩ := zeroT_ok (w := w) (I := Im Γ β st.h w) (β := β) hz
     have hzl2 := hzr.length
     have hzc : z.cells.size = szT Γ.P e := by simp at hzl2; omega
     have hinit : ∀ u : Array Value, (n * szT Γ.P e = 0 → u = #[]) → (n * szT Γ.P e ≠ 0 → u = z.cells) → RVDs w (Im Γ β st.h w) β (initD zs (szT Γ.P e) n) ((Array.range (n * szT Γ.P e)).map (u[· % u.size]!)).toList := by
      intro u h0 h1
      refine RVDs.mk (by simp [initD]) fun j d v hj hv => ?_
      simp only [initD, List.getElem?_map] at hj
      obtain ⟨j', hj', rfl⟩ := Option.map_eq_some_iff.1 hj
      have hlt := (List.getElem?_eq_some_iff.1 hj').1
      simp at hlt
      have : j' = j := by rw [List.getElem?_range hlt] at hj'; exact (Option.some.inj hj').symm
      subst this
      have hu2 := h1 (by omega)
      subst hu2
      have hm := Nat.mod_lt j' hpos
      obtain ⟨v', hv', hr⟩ := hzr.at (j' % szT Γ.P e) zs[j' % szT Γ.P e] (List.getElem?_eq_getElem (by omega))
      have e1 : v = v' := by
       have e2 : z.cells[j' % z.cells.size]! = v' := by
        rw [hzc]
        have : z.cells[j' % szT Γ.P e]? = some v' := by simpa using hv'
        rw [getElem!_def, this]
       simp only [Array.toList_map, Array.toList_range, List.getElem?_map, List.getElem?_range hlt, Option.map_some, Option.some.injEq] at hv
       rw [← hv, e2]
      subst e1
      simpa [List.getD, show j' % szT Γ.P e < zs.length by omega] using hr
     have fin : ∀ u : Array Value, (n * szT Γ.P e = 0 → u = #[]) → (n * szT Γ.P e ≠ 0 → u = z.cells) →
      (Instr.buildSlice t n (ps.map fun p => (p.1, a.eval p.2)).toArray).run Γ.P w = (match Instr.fill (fun i => some (i * szT Γ.P e, szT Γ.P e)) ((Array.range (n * szT Γ.P e)).map (u[· % u.size]!)) (ps.map fun p => (p.1, a.eval p.2)) with
       | some cells => .ok (.slice (some ⟨w.heap.size, 0, none⟩) n n) (w.alloc (.cells cells e))
       | none => .halt (.stuck "buildSlice: a part of the wrong size") w) := by
      intro u h0 h1
      have hmx : ¬ n * szT Γ.P e > 2 ^ 24 := by omega
      simp only [Instr.buildSlice, Sem.run_bind, run_underlying hu, run_sizeOf w hne, Result.andThen_ok, if_neg hmx, Sem.run_pure]
      by_cases hc : n * szT Γ.P e = 0
      ·rw [if_pos hc, h0 hc]
       simp only [Sem.run_bind, Sem.run_pure, Result.andThen_ok]
       generalize Instr.fill (fun i => some (i * szT Γ.P e, szT Γ.P e)) _ _ = X
       cases X <;> simp [newRow]
      ·rw [if_neg hc, h1 hc]
       simp only [Sem.run_bind, hrun, Sem.run_pure, Result.andThen_ok]
       generalize Instr.fill (fun i => some (i * szT Γ.P e, szT Γ.P e)) _ _ = X
       cases X <;> simp [newRow]
     obtain ⟨u, hu0, hu1⟩ : ∃ u : Array Value, (n * szT Γ.P e = 0 → u = #[]) ∧ (n * szT Γ.P e ≠ 0 → u = z.cells) := by
      by_cases hc : n * szT Γ.P e = 0
      ·exact ⟨#[], fun _ => rfl, fun h => absurd hc h⟩
      ·exact ⟨z.cells, fun h => absurd h hc, fun _ => rfl⟩
     obtain ⟨us, hus, hr⟩ := fill_ok hl hp (hinit u hu0 hu1) hf
     have hrun2 := fin u hu0 hu1
     rw [hus] at hrun2
     obtain ⟨_, hrs⟩ := frzs_ok cs S hr (qDs_frzs st cs hfr)
     obtain ⟨c1, c2, c3⟩ := chunks_ok hdl
     obtain ⟨S2, K2⟩ := S.called (w' := w.alloc (.cells us e)) (Below.alloc (Below.refl _ _) (Nat.le_refl _) _)
     refine ⟨_, _, _, _, _, hrun2, S2, ?_, rfl, hk'⟩
     simp only [RVD, RV]
     refine ⟨_, _, _, rfl, c1.symm, Nat.le_refl _, .inr ⟨w.heap.size, 0, szT Γ.P e, rfl, hpos, RE_chunks n ds 0 hdl fun j d hj => ?_⟩⟩
     obtain ⟨v, hv, hrv⟩ := hrs.at j d hj
     rw [Nat.zero_add]
     have hnew := World.alloc_heap_new w (.cells us e)
     refine ⟨v, ?_, ?_, List.all_eq_true.1 hone _ (List.mem_of_getElem? hj), RV.keeps K2 _ _ hrv⟩
     ·show (match (w.alloc (.cells us e)).heap[w.heap.size]? with | some (.cells cs _ _) => _ | _ => _) = _
      rw [hnew]
      exact (by rw [← Array.getElem?_toList]; exact hv : us[j]? = some v)
     ·refine .inr ⟨S.below.size, by rw [show (w.alloc (.cells us e)).heap.size = w.heap.size + 1 from Array.size_push ..]; exact Nat.lt_succ_self _, fun k B hB => ?_⟩
      intro hm
      have key : ∃ c sz, β k = .blk w.heap.size c sz := by
       cases B with
       | cells => exact hm.2
       | arr => obtain ⟨c, sz, hb, _⟩ := hm; exact ⟨c, sz, hb⟩
       | loop => exact hm
       | defer => exact hm
      obtain ⟨c, sz, hb⟩ := key
      have := (S.lt hB hb).1
      omega
    ·exact h.elim
   ·exact h.elim
  ·exact h.elim
 ·exact h.elim
def evQ (E : Env) (Φ : Fns) (f : Operand → D) (st : St) : Op → QA
 | .buildSlice t n ps => evQSlice E t n (ps.toList.map fun p => (p.1, f p.2))
 | .move x => .val (f x)
 | .assign x => .val (f x)
 | .pick c x y => evQPick (f c) (f x) (f y)
 | .build t ps => (evBuildF E t (ps.toList.map fun p => (p.1, f p.2))).q
 | .load t x => .req (posT E.P t = true) (evLoad E st t (f x)).q
 | .nilCheck x => if evNilCheck (f x) then .val (f x) else .stop
 | .binOp op t x y _ => (evEq E op t x y (f x) (f y)).q
 | .unOp op _ x => (evUn op (f x)).q
 | .convert src dst x => evQConv E st src dst (f x)
 | .makeInterface t x => evQIface E t (f x)
 | .makeFunc g xs ys => .val (.fn g (xs.toList.map f) (ys.toList.map f))
 | .slice t x lo hi mx => (evSlice E st t (f x) (lo.map f) (hi.map f) (mx.map f)).q
 | .fieldAddr t x i => (evFieldAddr E t (f x) i).q
 | .field t x i => (evField E t (f x) i).q
 | .indexAddr t x i => (evIndexAddr E st t (f x) (f i)).q
 | .index t x i => (evIndex E t (f x) (f i)).q
 | .extract x i => evQExtract (f x) i
 | .call { callee := .builtin b, args, argTypes } => evQBuiltin E b argTypes.toList (args.toList.map f)
 | .call { callee := .value g, args, .. } => evQFn Φ (f g) (args.toList.map f)
 | _ => .stop
theorem evOs_map (E : Env) (st : St) : ∀ (xs : List Operand), evOs E st xs = xs.map (evO E st)
 | [] => rfl
 | x :: r => by simp only [evOs, List.map_cons, evOs_map E st r]
def St.withT (st : St) (t : Tm) : St := ⟨⟨st.c.n, t, st.c.m⟩, st.s, st.h⟩
theorem map_agree {f g : Operand → D} {xs : List Operand} (h : ∀ x ∈ xs, f x = g x) : xs.map f = xs.map g := List.map_congr_left h
theorem opt_agree {f g : Operand → D} {x : Option Operand} (h : ∀ y ∈ x.toArray, f y = g y) : x.map f = x.map g := by
 cases x with
 | none => rfl
 | some x => exact congrArg some (h x (by simp))
theorem evQ_ok {E : Env} {Φ : Fns} {f : Operand → D} {st : St} {t : Tm} {P : D → Prop} (op : Op) (hns : ∀ t n ps, op ≠ .buildSlice t n ps) (hf : ∀ x ∈ op.operands, f x = evO E (st.withT t) x) (h : (evQ E Φ f st op).ok P) : (ev E Φ (st.withT t) op).ok (st.withT t) (quietS P (st.withT t)) := by
 cases op with
 | buildSlice t' n ps => exact absurd rfl (hns t' n ps)
 | move x =>
   have e := hf x (by simp [Op.operands])
   exact ⟨rfl, by rw [← e]; exact h⟩
 | assign x =>
   have e := hf x (by simp [Op.operands])
   exact ⟨rfl, by rw [← e]; exact h⟩
 | pick c x y =>
   simp only [evQ, evQPick] at h
   rw [hf c (by simp [Op.operands]), hf x (by simp [Op.operands]), hf y (by simp [Op.operands])] at h
   simp only [ev, evPick]
   split at h
   ·rename_i b hb
    simp only [hb]
    exact ⟨fun e => ⟨rfl, h.1 e⟩, fun e => ⟨rfl, h.2 e⟩⟩
   ·exact h.elim
 | build t' ps =>
   simp only [evQ] at h
   have e : (ps.toList.map fun p => (p.1, f p.2)) = ps.toList.map fun p => (p.1, evO E (st.withT t) p.2) :=
    List.map_congr_left fun p hp => by rw [hf p.2 (by simp [Op.operands]; exact ⟨p.1, by simpa using hp⟩)]
   rw [e, ← evBuild_eq] at h
   exact Res.q_ok h
 | load t' x =>
   simp only [evQ] at h
   rw [hf x (by simp [Op.operands])] at h
   exact ⟨h.1, Res.q_ok h.2⟩
 | nilCheck x =>
   simp only [evQ] at h
   rw [hf x (by simp [Op.operands])] at h
   simp only [ev]
   split at h
   ·rename_i hc
    rw [if_pos hc]
    exact ⟨rfl, h⟩
   ·exact h.elim
 | binOp op t' x y yt =>
   simp only [evQ] at h
   rw [hf x (by simp [Op.operands]), hf y (by simp [Op.operands])] at h
   exact Res2.q_ok h
 | unOp op t' x =>
   simp only [evQ] at h
   rw [hf x (by simp [Op.operands])] at h
   exact Res2.q_ok h
 | convert src dst x =>
   simp only [evQ, evQConv] at h
   rw [hf x (by simp [Op.operands])] at h
   simp only [ev, evConvert]
   generalize kindT E.P dst = k at h
   cases k with
   | slice e =>
     simp only []
     split
     ·rename_i e0
      rw [e0, evBytes_sl] at h
      exact h.elim
     ·exact Res.q_ok h
   | _ => exact Res2.q_ok h
 | makeInterface t' x =>
   simp only [evQ, evQIface] at h
   rw [hf x (by simp [Op.operands])] at h
   simp only [ev, evIface]
   generalize kindT E.P t' = k at h
   generalize evO E (st.withT t) x = d at h
   cases k <;> cases d <;> first | exact h.elim | exact ⟨rfl, h⟩
 | makeFunc g xs ys =>
   simp only [evQ] at h
   rw [map_agree (g := evO E (st.withT t)) fun x hx => hf x (by simp [Op.operands]; exact .inl (by simpa using hx)), map_agree (xs := ys.toList) (g := evO E (st.withT t)) fun x hx => hf x (by simp [Op.operands]; exact .inr (by simpa using hx)), ← evOs_map, ← evOs_map] at h
   exact ⟨rfl, h⟩
 | slice t' x lo hi mx =>
   simp only [evQ] at h
   rw [hf x (by simp [Op.operands]), opt_agree (g := evO E (st.withT t)) fun y hy => hf y (by simp [Op.operands] at hy ⊢; simp [hy]),
    opt_agree (x := hi) (g := evO E (st.withT t)) fun y hy => hf y (by simp [Op.operands] at hy ⊢; simp [hy]),
    opt_agree (x := mx) (g := evO E (st.withT t)) fun y hy => hf y (by simp [Op.operands] at hy ⊢; simp [hy])] at h
   exact Res.q_ok h
 | fieldAddr t' x i =>
   simp only [evQ] at h
   rw [hf x (by simp [Op.operands])] at h
   exact Res.q_ok h
 | field t' x i =>
   simp only [evQ] at h
   rw [hf x (by simp [Op.operands])] at h
   exact Res.q_ok h
 | indexAddr t' x i =>
   simp only [evQ] at h
   rw [hf x (by simp [Op.operands]), hf i (by simp [Op.operands])] at h
   exact Res.q_ok h
 | index t' x i =>
   simp only [evQ] at h
   rw [hf x (by simp [Op.operands]), hf i (by simp [Op.operands])] at h
   exact Res.q_ok h
 | extract x i =>
   simp only [evQ, evQExtract] at h
   rw [hf x (by simp [Op.operands])] at h
   simp only [ev, evExtract]
   split at h
   ·rename_i cs hcs
    simp only [hcs]
    split at h
    ·rename_i d hd
     simp only [hd]
     exact ⟨rfl, h⟩
    ·exact h.elim
   ·exact h.elim
 | call c =>
   obtain ⟨cal, args, ats⟩ := c
   have ha : args.toList.map f = evOs E (st.withT t) args.toList := by
    rw [evOs_map]
    exact map_agree fun x hx => hf x (by simp [Op.operands, Call.operands]; exact .inr (by simpa using hx))
   cases cal with
   | builtin b =>
     simp only [evQ] at h
     rw [ha] at h
     simp only [ev, evCall]
     generalize evOs E (st.withT t) args.toList = ds at h
     generalize ats.toList = ts at h
     unfold evQBuiltin at h
     unfold evBuiltin
     split at h
     ·exact Res2.q_ok h
     ·exact Res2.q_ok h
     ·exact Res2.q_ok h
     ·exact h.elim
   | value g =>
     simp only [evQ] at h
     rw [ha, hf g (by simp [Op.operands, Call.operands])] at h
     simp only [ev, evCall]
     unfold evQFn at h
     split at h
     ·rename_i g' hg
      simp only [evFn, hg, evGo]
      split at h
      ·rename_i p hp
       split at h
       ·rename_i xs hx
        simp only [hp, qDs_frzs _ _ hx]
        exact ⟨h.1, rfl, h.2⟩
       ·exact h.elim
      ·exact h.elim
     ·exact h.elim
   | invoke _ _ => exact h.elim
 | _ => exact h.elim
end Go.Proofs.YtpajpkbipagjpaaGreatDoor.Vm
namespace Go.Proofs.YtpajpkbipagjpaaGreatDoor.Vm
open Go Go.RowKit
def wr (ops : Array Oper) (q u : Nat) : Option Nat := (List.range q).find? fun i => gtmp ops i == some u
def hangs (o : Oper) (j : Nat) : Bool := o.after.toList.any fun e => e.on == j && Region.binds .any e
def hmask (o : Oper) : Nat := o.after.toList.foldr (fun e m => if Region.binds .any e then m ||| 2 ^ e.on else m) 0
def clos (ops : Array Oper) : Nat → Nat → Nat
 | 0, s => s
 | n + 1, s => clos ops n (if s.testBit n then match ops[n]? with | some o => s ||| hmask o | none => s else s)
def quietOK (ops : Array Oper) (q : Nat) : Bool :=
 decide (q ≤ ops.size) &&
 ((List.range ops.size).all fun i => match ops[i]? with
   | none => false
   | some o => (o.after.toList.all fun e => !Region.binds .any e || decide (e.on < i)) &&
     if i < q then ((match o.dst with | some t => wr ops q t == some i | none => false) && (match o.guard with | some (j, _) => decide (j < i) | none => true)) && (o.looksAt ops).all fun u => match wr ops q u with | some j => hangs o j | none => true
     else (clos ops i (hmask o)) % 2 ^ i == 2 ^ i - 1)
def qGuard (f g : Prop) (b : Bool) : D → Prop
 | .dat (.bool c) => (c = b → f) ∧ (c = !b → g)
 | .tup [] => g
 | _ => False
def qCheck (E : Env) (Φ : Fns) (ops : Array Oper) (st : St) (tF : Tm) (o : Oper) (t : Nat) : Prop :=
 match o.guard with
 | none => (evQ E Φ (evO E (st.withT tF)) st o.op).ok fun d => look tF t = d
 | some (j, b) => match gtmp ops j with
   | some g => qGuard ((evQ E Φ (evO E (st.withT tF)) st o.op).ok fun d => look tF t = d) (look tF t = .tup []) b (look tF g)
   | none => False
section
variable {Γ : Ctx} {st : St} {a : Act} {as : List Act} {β : Nat → Pl} {w : World} {Φ : Fns} {ρ : Option Nat} {next : Act → World → Prop} {Q : Exit → Act → World → Prop} {ops : Array Oper}
theorem goStep (hΦ : Sound Γ.toEnv Φ) {K : St → Prop} {o : Oper} {l : List Oper} {i : Nat} (ho : ops[i]? = some o) (S : Sim Γ st a as β w) (h : goOps Γ.toEnv Φ ops (o :: l) st K)
 (hnext : ∀ st a β w, Sim Γ st a as β w → goOps Γ.toEnv Φ ops l st K → next a w) : wpOpIn (Fw ρ) 0 Γ.P ops Q i next a w := by
 simp only [wpOpIn, ho]
 have hrun : ∀ (st : St) (S : Sim Γ st a as β w), (ev Γ.toEnv Φ st o.op).ok st ⟨fun d s => dstOK s o.dst ∧ goOps Γ.toEnv Φ ops l (Vm.putO s o.dst d) K, fun s => dstOK s o.dst ∧ goOps Γ.toEnv Φ ops l (Vm.putO s o.dst (.tup [])) K,
  fun g ds => VCcall Γ.toEnv g ds st fun d s => dstOK s o.dst ∧ goOps Γ.toEnv Φ ops l (Vm.putO s o.dst d) K, fun r ds => VCyield Γ.toEnv r ds st fun d s => dstOK s o.dst ∧ goOps Γ.toEnv Φ ops l (Vm.putO s o.dst d) K⟩ →
  o.wpIn (Fw ρ) 0 Γ.P a w next Q := by
  intro st S h
  refine ev_ok S hΦ o h ?_ ?_ ?_ ?_
  ·rintro v d st' β' w' S' hv ⟨h1, h2⟩
   exact hnext _ _ β' w' (S'.putO h1 hv) h2
  ·rintro st' β' w' S' ⟨h1, h2⟩
   exact hnext _ _ β' w' (S'.putO h1 undef_ok) h2
  ·intro g ds args hargs hc
   refine (hc Γ a as β w args rfl S hargs).mono fun e w'' he => ?_
   obtain ⟨v, d, st', β', rfl, S', hv, h1, h2⟩ := he
   exact ⟨v, rfl, hnext _ _ β' w'' (S'.putO h1 hv) h2⟩
  ·intro r ds args b c sz hb hargs hc
   obtain ⟨f, tmps, assign, body, hr, hround⟩ := hc Γ a as β w args b c sz rfl S hb hargs
   rw [hr]
   refine ⟨fun e => by simp [Fw, Fence.wide] at e, RoundIn.mono (F := Fw ρ) hround fun e w'' he => ?_⟩
   obtain ⟨v, d, st', β', rfl, S', hv, h1, h2⟩ := he
   exact hnext _ _ β' w'' (S'.putO h1 hv) h2
 have hskip : ∀ (st : St) (S : Sim Γ st a as β w), dstOK st o.dst ∧ goOps Γ.toEnv Φ ops l (Vm.putO st o.dst (.tup [])) K → (∀ f, o.about Γ.P w a.eval = some f → (Fw ρ).fn f) ∧ next (a.put o.dst undef) w := by
  rintro st S ⟨h1, h2⟩
  exact ⟨fun _ _ => trivial, hnext _ _ β w (S.putO h1 undef_ok) h2⟩
 unfold goOps at h
 cases hg : o.guard with
 | none =>
   rw [hg] at h
   rw [if_pos (by simp [Region.wanted, hg])]
   exact hrun st S h
 | some jb =>
   obtain ⟨j, b⟩ := jb
   rw [hg] at h
   simp only [guarded] at h
   split at h
   ·exact h.elim
   ·rename_i t ht
    have hget := S.get t
    have hy : yielded ops a.tmps j = match a.tmps[t]? with | some (.bool b) => some b | _ => none := by
     unfold yielded
     rw [show (ops[j]?).bind (·.dst) = some t from ht]
     rfl
    split at h
    ·rename_i c hc
     rw [hc] at hget
     simp only [RVD, RV] at hget
     have hy' : yielded ops a.tmps j = some c := by rw [hy, getD_bool hget]
     by_cases hcb : c = b
     ·rw [if_pos (by simp [Region.wanted, hg, hy', hcb])]
      refine hrun _ (S.know ?_) (h.1 hcb)
      rw [hget, hcb]; simp only [RVD, RV]
     ·rw [if_neg (by simp [Region.wanted, hg, hy', hcb])]
      have hcb' : c = !b := by cases c <;> cases b <;> simp_all
      refine hskip _ (S.know ?_) (h.2 hcb')
      rw [hget, hcb']; simp only [RVD, RV]
    ·rename_i hc
     rw [hc] at hget
     simp only [RVD] at hget
     obtain ⟨vs, hv, hvs⟩ := hget
     simp only [RVDs] at hvs
     have hv' : a.tmps.getD t undef = undef := by
      rw [hv]
      have : vs = #[] := by apply Array.ext'; simpa using hvs
      rw [this]; rfl
     have hy' : yielded ops a.tmps j = none := by
      rw [hy]
      split
      ·rename_i b' hb'
       exact absurd hb' (getD_undef hv' b')
      ·rfl
     rw [if_neg (by simp [Region.wanted, hg, hy'])]
     exact hskip st S h
    ·exact h.elim
theorem qStep (hΦ : Sound Γ.toEnv Φ) {o : Oper} {i t : Nat} {t' tF : Tm} (ho : ops[i]? = some o) (hd : o.dst = some t) (htn : t < st.c.n) (S : Sim Γ (st.withT t') a as β w) (hl : ∀ u ∈ o.looksAt ops, look t' u = look tF u)
 (h : qCheck Γ.toEnv Φ ops st tF o t) (hnext : ∀ a β w, Sim Γ ((st.withT t').put t (look tF t)) a as β w → next a w) : wpOpIn (Fw ρ) 0 Γ.P ops Q i next a w := by
 simp only [wpOpIn, ho]
 have hf : ∀ x ∈ o.op.operands, evO Γ.toEnv (st.withT tF) x = evO Γ.toEnv (st.withT t') x := by
  intro x hx
  cases x with
  | tmp u =>
    have : u ∈ o.looksAt ops := by
     unfold Oper.looksAt
     refine List.mem_append_left _ (List.mem_filterMap.2 ⟨.tmp u, by simpa using hx, rfl⟩)
    exact (hl u this).symm
  | _ => rfl
 have hrun : ((evQ Γ.toEnv Φ (evO Γ.toEnv (st.withT tF)) st o.op).ok fun d => look tF t = d) → o.wpIn (Fw ρ) 0 Γ.P a w next Q := by
  intro h
  by_cases hbs : ∃ t n ps, o.op = .buildSlice t n ps
  ·obtain ⟨ty, n, ps, hop⟩ := hbs
   have h0 := h
   rw [hop] at h0
   simp only [evQ] at h0
   have e : (ps.toList.map fun p => (p.1, evO Γ.toEnv (st.withT tF) p.2)) = partsD Γ.toEnv (st.withT t') ps.toList := List.map_congr_left fun p hp => by
    have := hf p.2 (by rw [hop]; simp [Op.operands]; exact ⟨p.1, by simpa using hp⟩)
    rw [this]
   rw [e] at h0
   refine ⟨fun _ _ => trivial, ?_⟩
   rw [Oper.semAt_eq _ _ _ (fun c e => by rw [hop] at e; cases e)]
   have hx : (execOp a.eval o).run Γ.P w = Sem.run Γ.P (do pure (.value (← Instr.buildSlice ty n (ps.toList.map fun p => (p.1, a.eval p.2)).toArray)) : Sem Next) w := by
    have hps : (ps.toList.map fun p => (p.1, a.eval p.2)).toArray = ps.map fun p => (p.1, a.eval p.2) := by
     apply Array.ext'; simp
    rw [hps]
    unfold execOp
    rw [hop]
   rw [hx]
   refine upon_good (good_sliceQ S ty n ps.toList h0) ?_
   rintro v d st' β' w' S' hv ⟨rfl, h2⟩
   rw [hd]
   exact hnext _ β' w' (h2 ▸ S'.put htn hv)
  have hns : ∀ t n ps, o.op ≠ .buildSlice t n ps := fun t n ps e => hbs ⟨t, n, ps, e⟩
  refine ev_ok S hΦ o (evQ_ok o.op hns hf h) ?_ ?_ ?_ ?_
  ·rintro v d st' β' w' S' hv ⟨rfl, h2⟩
   rw [hd]
   exact hnext _ β' w' (h2 ▸ S'.put htn hv)
  ·rintro st' β' w' S' h; exact h.elim
  ·intro g ds args _ h; exact h.elim
  ·intro l ds args b c sz _ _ h; exact h.elim
 have hskip : look tF t = .tup [] → (∀ f, o.about Γ.P w a.eval = some f → (Fw ρ).fn f) ∧ next (a.put o.dst undef) w := by
  intro h
  refine ⟨fun _ _ => trivial, ?_⟩
  rw [hd]
  exact hnext _ β w (h ▸ S.put htn undef_ok)
 unfold qCheck at h
 cases hg : o.guard with
 | none =>
   rw [hg] at h
   rw [if_pos (by simp [Region.wanted, hg])]
   exact hrun h
 | some jb =>
   obtain ⟨j, b⟩ := jb
   rw [hg] at h
   simp only [] at h
   split at h
   ·rename_i g hgt
    have hgl : look t' g = look tF g := by
     refine hl g ?_
     unfold Oper.looksAt
     refine List.mem_append_right _ ?_
     rw [hg]
     simp only []
     rw [show (ops[j]?).bind (·.dst) = some g from hgt]
     simp
    have hget := S.get g
    have hy : yielded ops a.tmps j = match a.tmps[g]? with | some (.bool b) => some b | _ => none := by
     unfold yielded
     rw [show (ops[j]?).bind (·.dst) = some g from hgt]
     rfl
    rw [show look (st.withT t').c.t g = look tF g from hgl] at hget
    unfold qGuard at h
    split at h
    ·rename_i c hc
     rw [hc] at hget
     simp only [RVD, RV] at hget
     have hy' : yielded ops a.tmps j = some c := by rw [hy, getD_bool hget]
     by_cases hcb : c = b
     ·rw [if_pos (by simp [Region.wanted, hg, hy', hcb])]
      exact hrun (h.1 hcb)
     ·rw [if_neg (by simp [Region.wanted, hg, hy', hcb])]
      have hcb' : c = !b := by cases c <;> cases b <;> simp_all
      exact hskip (h.2 hcb')
    ·rename_i hc
     rw [hc] at hget
     simp only [RVD] at hget
     obtain ⟨vs, hv, hvs⟩ := hget
     simp only [RVDs] at hvs
     have hv' : a.tmps.getD g undef = undef := by
      rw [hv]
      have : vs = #[] := by apply Array.ext'; simpa using hvs
      rw [this]; rfl
     have hy' : yielded ops a.tmps j = none := by
      rw [hy]
      split
      ·rename_i b' hb'
       exact absurd hb' (getD_undef hv' b')
      ·rfl
     rw [if_neg (by simp [Region.wanted, hg, hy'])]
     exact hskip h
    ·exact h.elim
   ·exact h.elim
end
end Go.Proofs.YtpajpkbipagjpaaGreatDoor.Vm
namespace Go.Proofs.YtpajpkbipagjpaaGreatDoor.Vm
open Go Go.RowKit
theorem hangs_ok {o : Oper} {j : Nat} (h : hangs o j = true) : ∃ e ∈ o.after, e.on = j ∧ Region.binds .any e = true := by
 unfold hangs at h
 obtain ⟨e, he, h⟩ := List.any_eq_true.1 h
 simp only [Bool.and_eq_true, beq_iff_eq] at h
 exact ⟨e, by simpa using he, h.1, h.2⟩
theorem quietOK_size {ops : Array Oper} {q : Nat} (h : quietOK ops q = true) : q ≤ ops.size := by
 simp only [quietOK, Bool.and_eq_true, decide_eq_true_eq] at h
 exact h.1
def Closed (ops : Array Oper) (L : Nat → Prop) : Prop := ∀ k o, ops[k]? = some o → L k → ∀ e ∈ o.after, Region.binds .any e = true → L e.on
theorem hmask_bit {o : Oper} {j : Nat} (h : (hmask o).testBit j = true) : ∃ e ∈ o.after, e.on = j ∧ Region.binds .any e = true := by
 have aux : ∀ l : List Edge, (l.foldr (fun e m => if Region.binds .any e then m ||| 2 ^ e.on else m) 0).testBit j = true → ∃ e ∈ l, e.on = j ∧ Region.binds .any e = true := by
  intro l
  induction l with
  | nil => intro h; simp at h
  | cons e l ih =>
    intro h
    rw [List.foldr_cons] at h
    split at h
    ·rename_i hb
     rw [Nat.testBit_or, Bool.or_eq_true, Nat.testBit_two_pow] at h
     rcases h with h | h
     ·obtain ⟨e', h1, h2⟩ := ih h
      exact ⟨e', by simp [h1], h2⟩
     ·exact ⟨e, by simp, of_decide_eq_true h, hb⟩
    ·obtain ⟨e', h1, h2⟩ := ih h
     exact ⟨e', by simp [h1], h2⟩
 obtain ⟨e, h1, h2⟩ := aux _ h
 exact ⟨e, by simpa using h1, h2⟩
theorem clos_in {ops : Array Oper} {L : Nat → Prop} (hL : Closed ops L) : ∀ (n s : Nat), (∀ j, s.testBit j = true → L j) → ∀ j, (clos ops n s).testBit j = true → L j
 | 0, s, h, j, hj => h j hj
 | n + 1, s, h, j, hj => by
   rw [clos] at hj
   refine clos_in hL n _ ?_ j hj
   intro k hk
   split at hk
   ·rename_i hn
    split at hk
    ·rename_i o ho
     rw [Nat.testBit_or, Bool.or_eq_true] at hk
     rcases hk with hk | hk
     ·exact h k hk
     ·obtain ⟨e, he, rfl, hb⟩ := hmask_bit hk
      exact hL n o ho (h n hn) e he hb
    ·exact h k hk
   ·exact h k hk
theorem quietOK_at {ops : Array Oper} {q i : Nat} {o : Oper} (h : quietOK ops q = true) (ho : ops[i]? = some o) : (∀ e ∈ o.after, Region.binds .any e = true → e.on < i) ∧
 (i < q → ((∃ t, o.dst = some t ∧ wr ops q t = some i) ∧ ∀ j b, o.guard = some (j, b) → j < i) ∧ ∀ u ∈ o.looksAt ops, ∀ j, wr ops q u = some j → hangs o j = true) ∧ (q ≤ i → ∀ L, Closed ops L → (∀ e ∈ o.after, Region.binds .any e = true → L e.on) → ∀ j, j < i → L j) := by
 have hi : i < ops.size := (Array.getElem?_eq_some_iff.1 ho).1
 simp only [quietOK, Bool.and_eq_true] at h
 have h := List.all_eq_true.1 h.2 i (List.mem_range.2 hi)
 rw [ho] at h
 simp only [Bool.and_eq_true] at h
 obtain ⟨h1, h2⟩ := h
 refine ⟨fun e he hb => ?_, fun hq => ?_, fun hq L hL hLo j hj => ?_⟩
 ·have := List.all_eq_true.1 h1 e (by simpa using he)
  simpa [hb] using this
 ·rw [if_pos hq] at h2
  simp only [Bool.and_eq_true] at h2
  obtain ⟨⟨h3, h5⟩, h4⟩ := h2
  refine ⟨⟨?_, fun j b hg => ?_⟩, fun u hu j hj => ?_⟩
  ·split at h3
   ·rename_i t ht
    exact ⟨t, ht, by simpa using h3⟩
   ·cases h3
  ·rw [hg] at h5
   simpa using h5
  ·have := List.all_eq_true.1 h4 u hu
   rw [hj] at this
   exact this
 ·rw [if_neg (by omega)] at h2
  have h2 := eq_of_beq h2
  refine clos_in hL i (hmask o) (fun k hk => ?_) j ?_
  ·obtain ⟨e, he, rfl, hb⟩ := hmask_bit hk
   exact hLo e he hb
  ·have h3 := Nat.testBit_mod_two_pow (clos ops i (hmask o)) i j
   rw [h2, Nat.testBit_two_pow_sub_one, decide_eq_true hj, Bool.true_and] at h3
   exact h3.symm
theorem wr_dst {ops : Array Oper} {q u i : Nat} (h : wr ops q u = some i) : i < q ∧ gtmp ops i = some u := by
 unfold wr at h
 have h1 := List.find?_some h
 have h2 := List.mem_of_find?_eq_some h
 exact ⟨List.mem_range.1 h2, by simpa using h1⟩
def unl (listed : Array Bool) : Nat → Nat
 | 0 => 0
 | k + 1 => unl listed k + if listed.getD k true then 0 else 1
theorem unl_le (listed : Array Bool) : ∀ k, unl listed k ≤ k
 | 0 => Nat.le_refl _
 | k + 1 => by
   have := unl_le listed k
   simp only [unl]; split <;> omega
theorem getD_set_same {listed : Array Bool} {j : Nat} (h : j < listed.size) (d : Bool) : (listed.setIfInBounds j true).getD j d = true := by
 simp [Array.getD_eq_getD_getElem?, h]
theorem unl_set_ge {listed : Array Bool} {j : Nat} : ∀ {k : Nat}, k ≤ j → unl (listed.setIfInBounds j true) k = unl listed k
 | 0, _ => rfl
 | k + 1, h => by simp only [unl]; rw [unl_set_ge (by omega), getD_set_ne true (by omega)]
theorem unl_set {listed : Array Bool} {j : Nat} (hj : j < listed.size) (h : listed.getD j true = false) : ∀ {k : Nat}, j < k → unl (listed.setIfInBounds j true) k + 1 = unl listed k
 | 0, hk => by omega
 | k + 1, hk => by
   simp only [unl]
   by_cases e : j = k
   ·subst e
    rw [unl_set_ge (Nat.le_refl _), getD_set_same hj, h]
    simp
   ·rw [getD_set_ne true e, ← unl_set hj h (show j < k by omega)]
    omega
theorem unl_exact {listed : Array Bool} {m : Nat} : ∀ {k : Nat}, m ≤ k → (∀ i, i < k → listed.getD i true = decide (i < m)) → unl listed k + m = k
 | 0, h, _ => by simp only [unl]; omega
 | k + 1, h, hl => by
   simp only [unl]
   rw [hl k (by omega)]
   by_cases e : m = k + 1
   ·subst e
    have : ∀ j, j ≤ k + 1 → unl listed j = 0 := by
     intro j
     induction j with
     | zero => intro _; rfl
     | succ j ih => intro hj; simp only [unl]; rw [ih (by omega), hl j (by omega)]; simp; omega
    rw [this k (by omega)]; simp
   ·have := unl_exact (k := k) (by omega) fun i hi => hl i (by omega)
    have : ¬ k < m := by omega
    simp [this]; omega
theorem unl_pos {listed : Array Bool} {j : Nat} (h : listed.getD j true = false) : ∀ {k : Nat}, j < k → 0 < unl listed k
 | 0, hk => by omega
 | k + 1, hk => by
   simp only [unl]
   by_cases e : j = k
   ·subst e; rw [h]; simp
   ·have := unl_pos h (show j < k by omega); omega
section
variable {Γ : Ctx} {st : St} {as : List Act} {Φ : Fns} {ρ : Option Nat} {Q : Exit → Act → World → Prop} {ops : Array Oper} {q : Nat} {K : St → Prop}
theorem getD_tf {listed : Array Bool} {j : Nat} (h : j < listed.size) (d d' : Bool) : listed.getD j d = listed.getD j d' := by
 simp [Array.getD_eq_getD_getElem?, h]
theorem phase2 (hΦ : Sound Γ.toEnv Φ) (hs : quietOK ops q = true) (hQ : ∀ st a β w, Sim Γ st a as β w → K st → Q .normal a w) :
 ∀ (fuel m : Nat) (listed : Array Bool) (st : St) (a : Act) (β : Nat → Pl) (w : World), listed.size = ops.size → q ≤ m → m ≤ ops.size → ops.size ≤ m + fuel → (∀ i, i < ops.size → listed.getD i true = decide (i < m)) →
  Sim Γ st a as β w → goOps Γ.toEnv Φ ops (ops.toList.drop m) st K → wpAnyIn (Fw ρ) 0 Γ.P .any ops Q fuel listed a w := by
 intro fuel
 induction fuel with
 | zero =>
   intro m listed st a β w hsz hqm hm hf hl S h
   have hmn : m = ops.size := by omega
   have hnil : Region.ready .any ops listed = [] := by
    refine List.eq_nil_iff_forall_not_mem.2 fun j hj => ?_
    obtain ⟨h1, o, ho, _⟩ := mem_ready.1 hj
    have hj := (Array.getElem?_eq_some_iff.1 ho).1
    rw [hl j hj] at h1
    simp at h1; omega
   refine ⟨hnil, ?_⟩
   rw [List.drop_of_length_le (by simp; omega)] at h
   exact hQ st a β w S h
 | succ fuel ih =>
   intro m listed st a β w hsz hqm hm hf hl S h
   refine ⟨fun hnil => ?_, fun j hj => ?_⟩
   ·by_cases hmn : m = ops.size
    ·rw [List.drop_of_length_le (by simp; omega)] at h
     exact hQ st a β w S h
    ·exfalso
     have hlt : m < ops.size := by omega
     have ho := Array.getElem?_eq_getElem hlt
     have : m ∈ Region.ready .any ops listed := by
      refine mem_ready.2 ⟨by rw [hl m hlt]; simp, _, ho, fun e he hb => ?_⟩
      have := (quietOK_at hs ho).1 e he hb
      rw [getD_tf (by omega) false true, hl e.on (by omega)]
      simpa using this
     rw [hnil] at this
     cases this
   ·obtain ⟨h1, o, ho, h2⟩ := mem_ready.1 hj
    have hjn := (Array.getElem?_eq_some_iff.1 ho).1
    rw [hl j hjn] at h1
    simp only [decide_eq_false_iff_not, Nat.not_lt] at h1
    have hjm : j = m := by
     rcases Nat.lt_or_ge m j with hlt | hge
     ·exfalso
      have := (quietOK_at hs ho).2.2 (by omega) (fun k => k < m) (fun k o' hk hlk e he hb => Nat.lt_trans ((quietOK_at hs hk).1 e he hb) hlk) (fun e he hb => by
       have h4 := h2 e he hb
       have h5 := (quietOK_at hs ho).1 e he hb
       rw [getD_tf (by omega) false true, hl e.on (by omega)] at h4
       simpa using h4) m hlt
      omega
     ·omega
    subst hjm
    have hdrop : ops.toList.drop j = o :: ops.toList.drop (j + 1) := by
     rw [List.drop_eq_getElem_cons (by simpa using hjn)]
     congr 1
     have := (Array.getElem?_eq_some_iff.1 ho).2
     simpa using this
    rw [hdrop] at h
    refine goStep hΦ ho S h fun st' a' β' w' S' h' => ih (j + 1) _ st' a' β' w' (by simp [hsz]) (by omega) (by omega) (by omega) (fun i hi => ?_) S' h'
    by_cases e : j = i
    ·subst e; rw [getD_set_same (by omega)]; simp
    ·rw [getD_set_ne true e, hl i hi]
     have : (i < j) ↔ (i < j + 1) := by omega
     simp [this]
def lookV (ops : Array Oper) (q : Nat) (t0 tF : Tm) (listed : Array Bool) (u : Nat) : D :=
 match wr ops q u with
 | some i => if listed.getD i false then look tF u else look t0 u
 | none => look t0 u
theorem phase1 (hΦ : Sound Γ.toEnv Φ) (hs : quietOK ops q = true) (hQ : ∀ st a β w, Sim Γ st a as β w → K st → Q .normal a w) {tF : Tm} (hF : ∀ u, wr ops q u = none → look tF u = look st.c.t u)
 (hc : ∀ i o t, i < q → ops[i]? = some o → o.dst = some t → t < st.c.n ∧ qCheck Γ.toEnv Φ ops st tF o t) (hK : goOps Γ.toEnv Φ ops (ops.toList.drop q) (st.withT tF) K) :
 ∀ (fuel : Nat) (listed : Array Bool) (t' : Tm) (a : Act) (β : Nat → Pl) (w : World), listed.size = ops.size → unl listed ops.size ≤ fuel → (∀ i, q ≤ i → i < ops.size → listed.getD i true = false) → Closed ops (fun k => listed.getD k false = true) →
  Sim Γ (st.withT t') a as β w → (∀ u, look t' u = lookV ops q st.c.t tF listed u) → wpAnyIn (Fw ρ) 0 Γ.P .any ops Q fuel listed a w := by
 have hqn := quietOK_size hs
 have done : ∀ (fuel : Nat) (listed : Array Bool) (t' : Tm) (a : Act) (β : Nat → Pl) (w : World), listed.size = ops.size → unl listed ops.size ≤ fuel → (∀ i, q ≤ i → i < ops.size → listed.getD i true = false) →
  Sim Γ (st.withT t') a as β w → (∀ u, look t' u = lookV ops q st.c.t tF listed u) → (∀ i, i < q → listed.getD i true = true) → wpAnyIn (Fw ρ) 0 Γ.P .any ops Q fuel listed a w := by
  intro fuel listed t' a β w hsz hf hl S hlook hall
  have hex : ∀ i, i < ops.size → listed.getD i true = decide (i < q) := by
   intro i hi
   by_cases h : i < q
   ·rw [hall i h]; simp [h]
   ·rw [hl i (by omega) hi]; simp [h]
  obtain ⟨β', S'⟩ := (Ent.temps (t' := tF) fun u => by
   left
   rw [hlook u]
   unfold lookV
   split
   ·rename_i i hi
    have := (wr_dst hi).1
    rw [if_pos (by rw [getD_tf (by omega) false true]; exact hall i this)]
   ·rename_i hi
    exact hF u hi) Γ a as β w S
  have hcount := unl_exact hqn hex
  exact phase2 hΦ hs hQ fuel q listed _ a β' w hsz (Nat.le_refl _) hqn (by omega) hex S' hK
 intro fuel
 induction fuel with
 | zero =>
   intro listed t' a β w hsz hf hl hcl S hlook
   refine done 0 listed t' a β w hsz hf hl S hlook fun i hi => ?_
   cases h : listed.getD i true with
   | true => rfl
   | false => have := unl_pos h (show i < ops.size by omega); omega
 | succ fuel ih =>
   intro listed t' a β w hsz hf hl hcl S hlook
   by_cases hall : ∀ i, i < q → listed.getD i true = true
   ·exact done (fuel + 1) listed t' a β w hsz hf hl S hlook hall
   ·have hsome : ∃ i, i < q ∧ listed.getD i true = false := by
     refine Classical.byContradiction fun hno => hall fun i hi => ?_
     cases h : listed.getD i true with
     | true => rfl
     | false => exact absurd ⟨i, hi, h⟩ hno
    refine ⟨fun hnil => ?_, fun j hj => ?_⟩
    ·exfalso
     obtain ⟨i, ⟨hi, hu⟩, hmin⟩ := exists_min hsome
     have ho := Array.getElem?_eq_getElem (show i < ops.size by omega)
     have : i ∈ Region.ready .any ops listed := by
      refine mem_ready.2 ⟨hu, _, ho, fun e he hb => ?_⟩
      have hlt := (quietOK_at hs ho).1 e he hb
      rw [getD_tf (by omega) false true]
      cases h : listed.getD e.on true with
      | true => rfl
      | false => have := hmin e.on ⟨by omega, h⟩; omega
     rw [hnil] at this
     cases this
    ·obtain ⟨h1, o, ho, h2⟩ := mem_ready.1 hj
     have hjn := (Array.getElem?_eq_some_iff.1 ho).1
     have hjq : j < q := by
      rcases Nat.lt_or_ge j q with h | h
      ·exact h
      ·exfalso
       obtain ⟨i, hi, hu⟩ := hsome
       have := (quietOK_at hs ho).2.2 h _ hcl h2 i (by omega)
       rw [getD_tf (by omega) false true, hu] at this
       cases this
     obtain ⟨⟨⟨t, hd, hw⟩, _⟩, hlooks⟩ := (quietOK_at hs ho).2.1 hjq
     obtain ⟨htn, hck⟩ := hc j o t hjq ho hd
     refine qStep hΦ ho hd htn S (fun u hu => ?_) hck fun a' β' w' S' => ?_
     ·rw [hlook u]
      unfold lookV
      split
      ·rename_i i hi
       obtain ⟨e, he, e1, e2⟩ := hangs_ok (hlooks u hu i hi)
       rw [if_pos (by rw [← e1]; exact h2 e he e2)]
      ·rename_i hi
       exact (hF u hi).symm
     ·refine ih (listed.setIfInBounds j true) ((t, look tF t) :: t') a' β' w' (by simp [hsz]) ?_ (fun i hi hin => by rw [getD_set_ne true (by omega)]; exact hl i hi hin) ?_ S' fun u => ?_
      ·have := unl_set (by omega) h1 hjn
       omega
      ·intro k o' hk hlk e he hb
       have mono : ∀ i, listed.getD i false = true → (listed.setIfInBounds j true).getD i false = true := by
        intro i hi
        by_cases eij : j = i
        ·subst eij; exact getD_set_same (by omega) false
        ·rw [getD_set_ne false eij]; exact hi
       by_cases ejk : j = k
       ·subst ejk
        rw [ho] at hk
        cases hk
        exact mono _ (h2 e he hb)
       ·rw [getD_set_ne false ejk] at hlk
        exact mono _ (hcl k o' hk hlk e he hb)
      ·simp only [look]
       by_cases e : t = u
       ·subst e
        rw [if_pos rfl]
        unfold lookV
        rw [hw]
        simp only []
        rw [if_pos (getD_set_same (by omega) false)]
       ·rw [if_neg e, hlook u]
        unfold lookV
        split
        ·rename_i i hi
         have hne : j ≠ i := by
          rintro rfl
          have := (wr_dst hi).2
          simp only [gtmp, ho, Option.bind_some, hd, Option.some.injEq] at this
          exact e this
         rw [getD_set_ne false hne]
        ·rfl
end
end Go.Proofs.YtpajpkbipagjpaaGreatDoor.Vm
namespace Go.Proofs.YtpajpkbipagjpaaGreatDoor.Vm
open Go Go.RowKit
def QA.run (f : D → Prop) : QA → Prop
 | .val d => f d
 | .req p r => p ∧ r.run f
 | .all _ _ => False
 | .split c x y => (c = true → f x) ∧ (c = false → f y)
 | .stop => False
def runQ (E : Env) (Φ : Fns) (ops : Array Oper) : List Oper → St → (St → Prop) → Prop
 | [], s, K => K s
 | o :: l, s, K =>
   match o.dst with
   | none => False
   | some t => match o.guard with
     | none => (evQ E Φ (evO E s) s o.op).run fun d => runQ E Φ ops l (s.put t d) K
     | some (j, b) => match gtmp ops j with
       | none => False
       | some g => match look s.c.t g with
         | .dat (.bool c) => (c = b → (evQ E Φ (evO E (s.put g (.dat (.bool b)))) s o.op).run fun d => runQ E Φ ops l ((s.put g (.dat (.bool b))).put t d) K) ∧ (c = !b → runQ E Φ ops l ((s.put g (.dat (.bool !b))).put t (.tup [])) K)
         | .tup [] => runQ E Φ ops l (s.put t (.tup [])) K
         | _ => False
def runL (E : Env) (Φ : Fns) : List SO → St → (St → Prop) → Prop
 | [], s, K => K s
 | o :: l, s, K =>
   match o.dst with
   | none => False
   | some t => match o.g with
     | none => (evQ E Φ (evO E s) s o.op).run fun d => runL E Φ l (s.put t d) K
     | some (none, b) => False
     | some (some g, b) => match look s.c.t g with
      | .dat (.bool c) => (c = b → (evQ E Φ (evO E (s.put g (.dat (.bool b)))) s o.op).run fun d => runL E Φ l ((s.put g (.dat (.bool b))).put t d) K) ∧ (c = !b → runL E Φ l ((s.put g (.dat (.bool !b))).put t (.tup [])) K)
      | .tup [] => runL E Φ l (s.put t (.tup [])) K
      | _ => False
theorem runL_ok {E : Env} {Φ : Fns} {ops : Array Oper} {K : St → Prop} : ∀ (l : List Oper) (s : St), runL E Φ (l.map (strip ops)) s K = runQ E Φ ops l s K
 | [], s => rfl
 | o :: l, s => by
   have ih := fun s => runL_ok (E := E) (Φ := Φ) (ops := ops) (K := K) l s
   simp only [List.map_cons]
   unfold runL runQ
   obtain ⟨dst, op, ty, pos, after, g⟩ := o
   cases dst with
   | none => rfl
   | some t =>
     cases g with
     | none => simp only [strip, stripG, ih]
     | some jb =>
       obtain ⟨j, b⟩ := jb
       cases h : gtmp ops j with
       | none => simp only [strip, stripG, h]
       | some g =>
         simp only [strip, stripG, h, ih]
section
variable {E : Env} {Φ : Fns} {l : List SO} {s : St} {K : St → Prop} {t : Nat}
def runA (E : Env) (Φ : Fns) (t : Nat) (l : List SO) (s : St) (K : St → Prop) (r : QA) : Prop := r.run fun d => runL E Φ l (s.put t d) K
def runB (E : Env) (Φ : Fns) (t : Nat) (op : Op) (l : List SO) (s : St) (K : St → Prop) (g : Nat) (b : Bool) (d : D) : Prop :=
 match d with
 | .dat (.bool c) => (c = b → runA E Φ t l (s.put g (.dat (.bool b))) K (evQ E Φ (evO E (s.put g (.dat (.bool b)))) s op)) ∧ (c = !b → runL E Φ l ((s.put g (.dat (.bool !b))).put t (.tup [])) K)
 | .tup [] => runL E Φ l (s.put t (.tup [])) K
 | _ => False
theorem runL_nil : runL E Φ [] s K = K s := rfl
theorem runL_cons {op : Op} : runL E Φ (⟨some t, op, none⟩ :: l) s K = runA E Φ t l s K (evQ E Φ (evO E s) s op) := rfl
theorem runL_guard {op : Op} {g : Nat} {b : Bool} : runL E Φ (⟨some t, op, some (some g, b)⟩ :: l) s K = runB E Φ t op l s K g b (look s.c.t g) := by
 unfold runL
 simp only [runB]
 cases look s.c.t g with
 | dat d => cases d <;> rfl
 | tup cs => cases cs <;> rfl
 | _ => rfl
theorem runA_val {d : D} : runA E Φ t l s K (.val d) = runL E Φ l (s.put t d) K := rfl
theorem runA_req {p : Prop} {r : QA} : runA E Φ t l s K (.req p r) = (p ∧ runA E Φ t l s K r) := rfl
theorem runA_split {c : Bool} {x y : D} (h1 : c = true → runA E Φ t l s K (.val x)) (h2 : c = false → runA E Φ t l s K (.val y)) : runA E Φ t l s K (.split c x y) := ⟨h1, h2⟩
theorem runA_splitT {x y : D} : runA E Φ t l s K (.split true x y) = runL E Φ l (s.put t x) K := by
 refine propext ⟨fun h => h.1 rfl, fun h => ⟨fun _ => h, fun e => by cases e⟩⟩
theorem runA_splitF {x y : D} : runA E Φ t l s K (.split false x y) = runL E Φ l (s.put t y) K := by
 refine propext ⟨fun h => h.2 rfl, fun h => ⟨(fun e => by cases e), fun _ => h⟩⟩
theorem runB_split {op : Op} {g : Nat} {b c : Bool} (h1 : c = true → runB E Φ t op l s K g b (.dat (.bool true))) (h2 : c = false → runB E Φ t op l s K g b (.dat (.bool false))) : runB E Φ t op l s K g b (.dat (.bool c)) := by
 cases c
 ·exact h2 rfl
 ·exact h1 rfl
theorem runB_splitD {op : Op} {g : Nat} {b : Bool} {p : Prop} [Decidable p] (h1 : p → runB E Φ t op l s K g b (.dat (.bool true))) (h2 : ¬p → runB E Φ t op l s K g b (.dat (.bool false))) : runB E Φ t op l s K g b (.dat (.bool (decide p))) :=
 runB_split (fun h => h1 (of_decide_eq_true h)) fun h => h2 (of_decide_eq_false h)
theorem runA_splitD {p : Prop} [Decidable p] {x y : D} (h1 : p → runA E Φ t l s K (.val x)) (h2 : ¬p → runA E Φ t l s K (.val y)) : runA E Φ t l s K (.split (decide p) x y) :=
 runA_split (fun h => h1 (of_decide_eq_true h)) fun h => h2 (of_decide_eq_false h)
theorem runB_TT {op : Op} {g : Nat} : runB E Φ t op l s K g true (.dat (.bool true)) = runA E Φ t l (s.put g (.dat (.bool true))) K (evQ E Φ (evO E (s.put g (.dat (.bool true)))) s op) := by simp [runB]
theorem runB_FF {op : Op} {g : Nat} : runB E Φ t op l s K g false (.dat (.bool false)) = runA E Φ t l (s.put g (.dat (.bool false))) K (evQ E Φ (evO E (s.put g (.dat (.bool false)))) s op) := by simp [runB]
theorem runB_TF {op : Op} {g : Nat} : runB E Φ t op l s K g true (.dat (.bool false)) = runL E Φ l ((s.put g (.dat (.bool false))).put t (.tup [])) K := by simp [runB]
theorem runB_FT {op : Op} {g : Nat} : runB E Φ t op l s K g false (.dat (.bool true)) = runL E Φ l ((s.put g (.dat (.bool true))).put t (.tup [])) K := by simp [runB]
theorem runB_U {op : Op} {g : Nat} {b : Bool} : runB E Φ t op l s K g b (.tup []) = runL E Φ l (s.put t (.tup [])) K := rfl
end
section
variable {E : Env} {Φ : Fns} {st : St} {tF : Tm} {op : Op} {t : Nat}
end
section
variable {E : Env} {Φ : Fns} {ρ : Option Nat} {st : St} {K : Exit → St → Prop}
end
theorem VC.regt {E : Env} {Φ : Fns} {ρ : Option Nat} {st : St} {K : Exit → St → Prop} {id : Nat} {ops : Array Oper} {y : Code} (hΦ : Sound E Φ) (ts : List Nat)
 (h : ∀ K' : St → Prop, (∀ s, VC E ρ y (s.keep ts) K → K' s) → goL E Φ (ops.toList.map (strip ops)) st K') : VC E ρ (.seq (.region id ops false) y) st K :=
 VC.reg hΦ fun K' hK => h K' fun s hs => hK s (hs.ent (Ent.keep s ts))
theorem blockK_same {id : Nat} {K : Exit → St → Prop} {s : St} : blockK id K (.exit id) s = K .normal s := by simp [blockK]
theorem blockK_other {id id' : Nat} {K : Exit → St → Prop} {s : St} (h : id' ≠ id) : blockK id K (.exit id') s = K (.exit id') s := by simp [blockK, h]
def tab : List (Nat × PFn) → Fns
 | [], _ => none
 | x :: l, f => if x.1 = f then some x.2 else tab l f
theorem sound_nil {E : Env} : Sound E (tab []) := fun f p h => by cases h
theorem sound_cons {E : Env} {f : Nat} {p : PFn} {l : List (Nat × PFn)} (hc : callable E.P f = true) (hp : Pure E f p) (h : Sound E (tab l)) : Sound E (tab ((f, p) :: l)) := by
 intro g q hq
 simp only [tab] at hq
 split at hq
 ·rename_i e
  subst e
  injection hq with hq
  subst hq
  exact ⟨hc, hp⟩
 ·exact h g q hq
attribute [go_sem] runL_nil runL_cons runL_guard runA_val runA_req runA_splitT runA_splitF runB_TT runB_FF runB_TF runB_FT runB_U
attribute [go_sem] Res.q Res2.q evBuildF evQSlice evQIface evQExtract evQPick evQBuiltin evQFn evQConv evQ qD qDs St.withT
attribute [go_sem] pureK pureS retK retS resD tupD dropH List.foldl_nil
end Go.Proofs.YtpajpkbipagjpaaGreatDoor.Vm
namespace Go.Proofs.YtpajpkbipagjpaaGreatDoor.Vm
open Go Go.RowKit
theorem evQ_congr {E : Env} {Φ : Fns} {f g : Operand → D} {st : St} (op : Op) (hf : ∀ x ∈ op.operands, f x = g x) : evQ E Φ f st op = evQ E Φ g st op := by
 cases op with
 | move x => simp only [evQ, hf x (by simp [Op.operands])]
 | assign x => simp only [evQ, hf x (by simp [Op.operands])]
 | pick c x y => simp only [evQ, hf c (by simp [Op.operands]), hf x (by simp [Op.operands]), hf y (by simp [Op.operands])]
 | build t' ps =>
   simp only [evQ]
   have e : (ps.toList.map fun p => (p.1, f p.2)) = ps.toList.map fun p => (p.1, g p.2) :=
    List.map_congr_left fun p hp => by rw [hf p.2 (by simp [Op.operands]; exact ⟨p.1, by simpa using hp⟩)]
   rw [e]
 | buildSlice t' n ps =>
   simp only [evQ]
   have e : (ps.toList.map fun p => (p.1, f p.2)) = ps.toList.map fun p => (p.1, g p.2) :=
    List.map_congr_left fun p hp => by rw [hf p.2 (by simp [Op.operands]; exact ⟨p.1, by simpa using hp⟩)]
   rw [e]
 | load t' x => simp only [evQ, hf x (by simp [Op.operands])]
 | nilCheck x => simp only [evQ, hf x (by simp [Op.operands])]
 | binOp op t' x y yt => simp only [evQ, hf x (by simp [Op.operands]), hf y (by simp [Op.operands])]
 | unOp op t' x => simp only [evQ, hf x (by simp [Op.operands])]
 | convert src dst x => simp only [evQ, hf x (by simp [Op.operands])]
 | makeInterface t' x => simp only [evQ, hf x (by simp [Op.operands])]
 | makeFunc g' xs ys =>
   simp only [evQ]
   rw [map_agree (g := g) fun x hx => hf x (by simp [Op.operands]; exact .inl (by simpa using hx)), map_agree (xs := ys.toList) (g := g) fun x hx => hf x (by simp [Op.operands]; exact .inr (by simpa using hx))]
 | slice t' x lo hi mx =>
   simp only [evQ]
   rw [hf x (by simp [Op.operands]), opt_agree (g := g) fun y hy => hf y (by simp [Op.operands] at hy ⊢; simp [hy]),
    opt_agree (x := hi) (g := g) fun y hy => hf y (by simp [Op.operands] at hy ⊢; simp [hy]),
    opt_agree (x := mx) (g := g) fun y hy => hf y (by simp [Op.operands] at hy ⊢; simp [hy])]
 | fieldAddr t' x i => simp only [evQ, hf x (by simp [Op.operands])]
 | field t' x i => simp only [evQ, hf x (by simp [Op.operands])]
 | indexAddr t' x i => simp only [evQ, hf x (by simp [Op.operands]), hf i (by simp [Op.operands])]
 | index t' x i => simp only [evQ, hf x (by simp [Op.operands]), hf i (by simp [Op.operands])]
 | extract x i => simp only [evQ, hf x (by simp [Op.operands])]
 | call c =>
   obtain ⟨cal, args, ats⟩ := c
   have ha : args.toList.map f = args.toList.map g := map_agree fun x hx => hf x (by simp [Op.operands, Call.operands]; exact .inr (by simpa using hx))
   cases cal with
   | builtin b => simp only [evQ, ha]
   | value h => simp only [evQ, ha, hf h (by simp [Op.operands, Call.operands])]
   | invoke _ _ => rfl
 | _ => rfl
theorem evQ_withT {E : Env} {Φ : Fns} {f : Operand → D} {st : St} {t : Tm} (op : Op) : evQ E Φ f (st.withT t) op = evQ E Φ f st op := by
 cases op with
 | call c =>
   obtain ⟨cal, args, ats⟩ := c
   cases cal <;> rfl
 | _ => rfl
theorem qCheck_withT {E : Env} {Φ : Fns} {ops : Array Oper} {st : St} {t' tF : Tm} {o : Oper} {t : Nat} : qCheck E Φ ops (st.withT t') tF o t = qCheck E Φ ops st tF o t := by
 unfold qCheck
 simp only [evQ_withT]
 rfl
theorem QA.run_ok {f : D → Prop} : ∀ {r : QA}, r.run f → ∃ d, f d ∧ r.ok fun d' => d = d'
 | .val d, h => ⟨d, h, rfl⟩
 | .req p r, h => let ⟨d, a, b⟩ := QA.run_ok (r := r) h.2; ⟨d, a, h.1, b⟩
 | .all _ _, h => h.elim
 | .split c x y, h => by
   cases c
   ·exact ⟨y, h.2 rfl, (fun e => by cases e), fun _ => rfl⟩
   ·exact ⟨x, h.1 rfl, (fun _ => rfl), fun e => by cases e⟩
 | .stop, h => h.elim
theorem QA.ok_mono {p p' : D → Prop} (hp : ∀ d, p d → p' d) : ∀ {r : QA}, r.ok p → r.ok p'
 | .val d, h => hp _ h
 | .req _ r, h => ⟨h.1, QA.ok_mono (r := r) hp h.2⟩
 | .all _ _, h => fun b hb => hp _ (h b hb)
 | .split c x y, h => ⟨fun e => hp _ (h.1 e), fun e => hp _ (h.2 e)⟩
 | .stop, h => h
theorem look_put_same {s : St} {t u : Nat} {d : D} (h : look s.c.t t = d) : look (s.put t d).c.t u = look s.c.t u := by
 show look ((t, d) :: s.c.t) u = _
 simp only [look]
 by_cases e : t = u
 ·subst e; rw [if_pos rfl, h]
 ·rw [if_neg e]
theorem look_put_ne {s : St} {t u : Nat} {d : D} (h : t ≠ u) : look (s.put t d).c.t u = look s.c.t u := by
 show look ((t, d) :: s.c.t) u = _
 simp only [look]
 rw [if_neg h]
theorem look_put_eq {s : St} {t : Nat} {d : D} : look (s.put t d).c.t t = d := by
 show look ((t, d) :: s.c.t) t = _
 simp only [look, if_true]
theorem evO_same {E : Env} {s s' : St} {x : Operand} (h : ∀ u, x = .tmp u → look s.c.t u = look s'.c.t u) : evO E s x = evO E s' x := by
 cases x with
 | tmp u => exact h u rfl
 | _ => rfl
theorem runQ_all {E : Env} {Φ : Fns} {ops : Array Oper} {q : Nat} {K : St → Prop} (hs : quietOK ops q = true) : ∀ (l : List Oper) (i : Nat) (s : St), (ops.toList.take q).drop i = l → runQ E Φ ops l s K →
 ∃ tF : Tm, K (s.withT tF) ∧ (∀ u, (∀ j, i ≤ j → wr ops q u ≠ some j) → look tF u = look s.c.t u) ∧ ∀ j o t, i ≤ j → j < q → ops[j]? = some o → o.dst = some t → qCheck E Φ ops s tF o t
 | [], i, s, hl, h => by
   refine ⟨s.c.t, h, fun u _ => rfl, fun j o t hij hjq ho _ => ?_⟩
   have hqn := quietOK_size hs
   have := congrArg List.length hl
   simp at this
   omega
 | o :: l, i, s, hl, h => by
   have hqn := quietOK_size hs
   have hi : i < q := by
    have := congrArg List.length hl
    simp at this
    omega
   have ho : ops[i]? = some o := by
    have := congrArg List.head? hl
    rw [List.head?_drop, List.getElem?_take, if_pos hi] at this
    simpa using this
   have hl' : (ops.toList.take q).drop (i + 1) = l := by
    rw [← List.tail_drop, hl]; rfl
   obtain ⟨⟨⟨t, hd, hw⟩, hgd⟩, hlooks⟩ := (quietOK_at hs ho).2.1 hi
   have hafter := (quietOK_at hs ho).1
   have hbefore : ∀ u ∈ o.looksAt ops, ∀ j, wr ops q u = some j → j < i := by
    intro u hu j hj
    obtain ⟨e, he, e1, e2⟩ := hangs_ok (hlooks u hu j hj)
    rw [← e1]; exact hafter e he e2
   -- what is done with a value of t, from a state that looks as s
   have fin : ∀ (s0 : St) (t0 : Tm) (d : D), s0 = s.withT t0 → (∀ u, look s0.c.t u = look s.c.t u) → runQ E Φ ops l (s0.put t d) K → (∀ tF : Tm, (∀ u, (∀ j, i + 1 ≤ j → wr ops q u ≠ some j) → u ≠ t → look tF u = look s.c.t u) → look tF t = d → qCheck E Φ ops s tF o t) →
    ∃ tF : Tm, K (s.withT tF) ∧ (∀ u, (∀ j, i ≤ j → wr ops q u ≠ some j) → look tF u = look s.c.t u) ∧ ∀ j o t, i ≤ j → j < q → ops[j]? = some o → o.dst = some t → qCheck E Φ ops s tF o t := by
    intro s0 t0 d hs0 hlk hrun hck
    obtain ⟨tF, h1, h2, h3⟩ := runQ_all hs l (i + 1) (s0.put t d) hl' hrun
    subst hs0
    refine ⟨tF, h1, fun u hu => ?_, fun j o' t' hij hjq ho' hd' => ?_⟩
    ·rw [h2 u fun j hj => hu j (by omega), look_put_ne, hlk u]
     rintro rfl
     exact hu i (Nat.le_refl _) hw
    ·rcases Nat.lt_or_ge i j with hlt | hge
     ·have := h3 j o' t' hlt hjq ho' hd'
      rw [show ((s.withT t0).put t d) = s.withT ((t, d) :: t0) from rfl, qCheck_withT] at this
      exact this
     ·have e : i = j := by omega
      subst e
      rw [ho] at ho'; injection ho' with ho'; subst ho'
      rw [hd] at hd'; injection hd' with hd'; subst hd'
      refine hck tF (fun u hu hne => ?_) ?_
      ·rw [h2 u hu, look_put_ne (Ne.symm hne), hlk u]
      ·rw [h2 t, look_put_eq]
       intro j hj e
       rw [hw] at e; injection e with e; omega
   -- the operands look the same
   have hopd : ∀ (tF : Tm) (s0 : St), (∀ u, look s0.c.t u = look s.c.t u) → (∀ u, (∀ j, i + 1 ≤ j → wr ops q u ≠ some j) → u ≠ t → look tF u = look s.c.t u) → ∀ x ∈ o.op.operands, evO E s0 x = evO E (s.withT tF) x := by
    intro tF s0 hlk h x hx
    refine evO_same fun u e => ?_
    subst e
    have hu : u ∈ o.looksAt ops := by
     unfold Oper.looksAt
     exact List.mem_append_left _ (List.mem_filterMap.2 ⟨.tmp u, by simpa using hx, rfl⟩)
    rw [hlk u]
    refine (h u (fun j hj e => ?_) ?_).symm
    ·have := hbefore u hu j e; omega
    ·rintro rfl
     have := hbefore _ hu i hw; omega
   have hrunok : ∀ (s0 : St) (t0 : Tm), s0 = s.withT t0 → (∀ u, look s0.c.t u = look s.c.t u) → ∀ (F : D → Prop), (evQ E Φ (evO E s0) s o.op).run F → ∃ d, F d ∧ ∀ tF : Tm, (∀ u, (∀ j, i + 1 ≤ j → wr ops q u ≠ some j) → u ≠ t → look tF u = look s.c.t u) → look tF t = d → (evQ E Φ (evO E (s.withT tF)) s o.op).ok fun d => look tF t = d := by
    intro s0 t0 hs0 hlk F hr
    obtain ⟨d, h1, h2⟩ := QA.run_ok hr
    refine ⟨d, h1, fun tF hF ht => ?_⟩
    rw [← evQ_congr o.op (hopd tF s0 hlk hF)]
    exact QA.ok_mono (fun d' e => ht.trans e) h2
   unfold runQ at h
   rw [hd] at h
   simp only [] at h
   cases hg : o.guard with
   | none =>
     rw [hg] at h
     simp only [] at h
     obtain ⟨d, h1, h2⟩ := hrunok s s.c.t rfl (fun _ => rfl) _ h
     refine fin s s.c.t d rfl (fun _ => rfl) h1 fun tF hF ht => ?_
     unfold qCheck
     rw [hg]
     exact h2 tF hF ht
   | some jb =>
     obtain ⟨j, b⟩ := jb
     rw [hg] at h
     simp only [] at h
     split at h
     ·exact h.elim
     ·rename_i g hgt
      have hgl : ∀ tF : Tm, (∀ u, (∀ j, i + 1 ≤ j → wr ops q u ≠ some j) → u ≠ t → look tF u = look s.c.t u) → look tF g = look s.c.t g := by
       intro tF hF
       have hu : g ∈ o.looksAt ops := by
        unfold Oper.looksAt
        refine List.mem_append_right _ ?_
        rw [hg]
        simp only []
        rw [show (ops[j]?).bind (·.dst) = some g from hgt]
        simp
       refine hF g (fun j hj e => ?_) ?_
       ·have := hbefore g hu j e; omega
       ·rintro rfl
        have := hbefore _ hu i hw; omega
      split at h
      ·rename_i c hc
       by_cases hcb : c = b
       ·subst hcb
        obtain ⟨d, h1, h2⟩ := hrunok (s.put g (.dat (.bool c))) _ rfl (fun u => look_put_same hc) _ (h.1 rfl)
        refine fin (s.put g (.dat (.bool c))) _ d rfl (fun u => look_put_same hc) h1 fun tF hF ht => ?_
        unfold qCheck
        rw [hg]
        simp only [hgt, hgl tF hF, hc, qGuard]
        exact ⟨fun _ => h2 tF hF ht, fun e => by cases c <;> cases e⟩
       ·have hcb' : c = !b := by cases c <;> cases b <;> simp_all
        have h1 := h.2 hcb'
        rw [← hcb'] at h1
        refine fin (s.put g (.dat (.bool c))) _ _ rfl (fun u => look_put_same hc) h1 fun tF hF ht => ?_
        unfold qCheck
        rw [hg]
        simp only [hgt, hgl tF hF, hc, qGuard]
        exact ⟨fun e => absurd e hcb, fun _ => ht⟩
      ·rename_i hc
       refine fin s s.c.t _ rfl (fun _ => rfl) h fun tF hF ht => ?_
       unfold qCheck
       rw [hg]
       simp only [hgt, hgl tF hF, hc, qGuard]
       exact ht
      ·exact h.elim
def dstsOK (ops : Array Oper) (q n : Nat) : Bool := (ops.toList.take q).all fun o => match o.dst with | some t => decide (t < n) | none => true
section
variable {E : Env} {Φ : Fns} {ρ : Option Nat} {st : St} {K : Exit → St → Prop}
theorem VC.drawN {id : Nat} {ops : Array Oper} (hΦ : Sound E Φ) (hm : E.P.follows .mixedOrders = true) (q : Nat) (hs : quietOK ops q = true) (hn : dstsOK ops q st.c.n = true)
 (h : ∀ L : St → Prop, (∀ s, (∀ K' : St → Prop, (∀ s, K .normal s → K' s) → goL E Φ ((ops.toList.drop q).map (strip ops)) s K') → L s) → runL E Φ ((ops.toList.take q).map (strip ops)) st L) :
 VC E ρ (.region id ops true) st K := fun Γ a as β w hΓ S => by
 subst hΓ
 refine wpIn_region_any hm ?_
 have hqn := quietOK_size hs
 have hr := h (fun s => ∀ K' : St → Prop, (∀ s, K .normal s → K' s) → goL Γ.toEnv Φ ((ops.toList.drop q).map (strip ops)) s K') fun s a => a
 rw [runL_ok] at hr
 obtain ⟨tF, hK, hF, hq⟩ := runQ_all hs _ 0 st rfl hr
 refine phase1 (Γ := Γ) (st := st) (as := as) (Q := fun e a w => ∃ st' β', Sim Γ st' a as β' w ∧ K e st') hΦ hs (K := K .normal) (fun st a β w S k => ⟨st, β, S, k⟩) (tF := tF) (fun u hu => hF u fun j _ e => ?_) (fun i o t hi ho ht => ⟨?_, hq i o t (Nat.zero_le _) hi ho ht⟩) ?_
  ops.size (Array.replicate ops.size false) st.c.t a β w.drew (by simp) (unl_le _ _) (fun i _ hi => by simp [Array.getD_eq_getD_getElem?, hi]) (fun k o _ hk => by simp [Array.getD_eq_getD_getElem?, Array.getElem?_replicate] at hk; split at hk <;> simp at hk) S.drew (fun u => ?_)
 ·rw [hu] at e; cases e
 ·have : o ∈ ops.toList.take q := by
   refine List.mem_iff_getElem?.2 ⟨i, ?_⟩
   rw [List.getElem?_take, if_pos hi]
   simpa using ho
  have := List.all_eq_true.1 hn o this
  rw [ht] at this
  simpa using this
 ·have := hK (K .normal) fun _ k => k
  rw [goL_ok] at this
  exact this
 ·unfold lookV
  split
  ·rename_i i hi
   have := (wr_dst hi).1
   rw [if_neg (by simp [Array.getD_eq_getD_getElem?, show i < ops.size by omega])]
  ·rfl
theorem VC.draw1 {id : Nat} {ops : Array Oper} {y : Code} (hΦ : Sound E Φ) (hm : E.P.follows .mixedOrders = true) (q : Nat) (hs : quietOK ops q = true) (hn : dstsOK ops q st.c.n = true) (ts : List Nat)
 (h : ∀ L : St → Prop, (∀ s, (∀ K' : St → Prop, (∀ s, VC E ρ y (s.keep ts) K → K' s) → goL E Φ ((ops.toList.drop q).map (strip ops)) s K') → L s) → runL E Φ ((ops.toList.take q).map (strip ops)) st L) :
 VC E ρ (.seq (.region id ops true) y) st K :=
 VC.seq (VC.drawN hΦ hm q hs hn fun L hL => h L fun s a => hL s fun K' hK => a K' fun s hs => hK s (hs.ent (Ent.keep s ts)))
end
end Go.Proofs.YtpajpkbipagjpaaGreatDoor.Vm
namespace Go.Proofs.YtpajpkbipagjpaaGreatDoor.Vm
open Go Go.RowKit
def St.over (st : St) (ts : List Nat) (f : Tm) (h : List (Nat × Blk)) : St := ⟨⟨st.c.n, f ++ keepT ts st.c.t, st.c.m⟩, st.s, h⟩
theorem look_append_mem {f g : Tm} {u : Nat} : look (f ++ g) u = .junk ∨ ∃ x ∈ f ++ g, x.1 = u ∧ look (f ++ g) u = x.2 := by
 induction f with
 | nil =>
   induction g with
   | nil => exact .inl rfl
   | cons x r ih =>
     simp only [List.nil_append, look]
     by_cases e : x.1 = u
     ·rw [if_pos e]; exact .inr ⟨x, by simp, e, rfl⟩
     ·rw [if_neg e]
      rcases ih with h | ⟨y, hy, h1, h2⟩
      ·exact .inl h
      ·exact .inr ⟨y, by simp at hy ⊢; exact .inr hy, h1, h2⟩
 | cons x r ih =>
   simp only [List.cons_append, look]
   by_cases e : x.1 = u
   ·rw [if_pos e]; exact .inr ⟨x, by simp, e, rfl⟩
   ·rw [if_neg e]
    rcases ih with h | ⟨y, hy, h1, h2⟩
    ·exact .inl h
    ·exact .inr ⟨y, by simp at hy ⊢; exact .inr hy, h1, h2⟩
theorem Ent.into {s : St} {n : Nat} {tm : Tm} {m : List Nat} {fs : List Fr} {h : List (Nat × Blk)} (ht : ∀ x ∈ tm, look s.c.t x.1 = x.2) (hn : s.c.n = n) (hm : s.c.m = m) (hs : s.s = fs) (hh : s.h = h) : Ent s ⟨⟨n, tm, m⟩, fs, h⟩ := by
 subst hn hm hs hh
 refine Ent.temps (n := s.c.n) (t := s.c.t) (m := s.c.m) (s := s.s) (h := s.h) fun u => ?_
 have := look_append_mem (f := tm) (g := []) (u := u)
 rw [List.append_nil] at this
 rcases this with h | ⟨x, hx, h1, h2⟩
 ·exact .inr h
 ·left
  rw [h2, ← h1]
  exact (ht x hx).symm
theorem VC.loopP {E : Env} {ρ : Option Nat} {st : St} {K : Exit → St → Prop} {ι : Type} {c : Code} (ts : List Nat) (f : ι → Tm) (h : ι → List (Nat × Blk)) (p : ι → Prop) (μ : ι → Nat) (i0 : ι) (hp : p i0)
 (h0 : Ent st (st.over ts (f i0) (h i0))) (step : ∀ i, p i → VC E ρ c (st.over ts (f i) (h i)) (thenK (fun s => ∃ j, p j ∧ Ent s (st.over ts (f j) (h j)) ∧ μ j < μ i) K)) : VC E ρ (.loop c) st K :=
 VC.loop (fun i => st.over ts (f i) (h i)) p μ i0 hp h0 step
attribute [go_sem] St.over
end Go.Proofs.YtpajpkbipagjpaaGreatDoor.Vm
namespace Go.Proofs.YtpajpkbipagjpaaGreatDoor.Vm
open Go Go.RowKit
section
variable {E : Env} {Φ : Fns} {ρ : Option Nat} {st st' : St} {K : Exit → St → Prop} {f : St → Prop} {s : St}
theorem VC.condb {c : Operand} {x y : Code} {b : Bool} (hc : evO E st c = .dat (.bool b)) (h1 : b = true → VC E ρ x st K) (h2 : b = false → VC E ρ y st K) : VC E ρ (.cond c x y) st K :=
 VC.cond (by rw [hc]; exact ⟨h1, h2⟩)
theorem VC.condd {c : Operand} {x y : Code} {p : Prop} {_ : Decidable p} (hc : evO E st c = .dat (.bool (decide p))) (h1 : p → VC E ρ x st K) (h2 : ¬ p → VC E ρ y st K) : VC E ρ (.cond c x y) st K :=
 VC.condb hc (fun h => h1 (of_decide_eq_true h)) fun h => h2 (of_decide_eq_false h)
theorem VC.condn {c : Operand} {x y : Code} {p : Prop} {_ : Decidable p} (hc : evO E st c = .dat (.bool (!decide p))) (h1 : ¬ p → VC E ρ x st K) (h2 : p → VC E ρ y st K) : VC E ρ (.cond c x y) st K :=
 VC.condb hc (fun h => h1 (by simpa using h)) fun h => h2 (by simpa using h)
theorem VC.condt {c : Operand} {x y : Code} {b : Bool} (hc : evO E st c = .dat (.bool (!b))) (h1 : b = false → VC E ρ x st K) (h2 : b = true → VC E ρ y st K) : VC E ρ (.cond c x y) st K :=
 VC.condb hc (fun h => h1 (by simpa using h)) fun h => h2 (by simpa using h)
theorem thenK_n (h : f s) : thenK f K .normal s := h
theorem thenK_e {id : Nat} (h : K (.exit id) s) : thenK f K (.exit id) s := h
theorem thenK_r (h : K .ret s) : thenK f K .ret s := h
theorem blockK_n {id : Nat} (h : K .normal s) : blockK id K .normal s := h
theorem blockK_r {id : Nat} (h : K .ret s) : blockK id K .ret s := h
theorem blockK_e {id : Nat} (h : K .normal s) : blockK id K (.exit id) s := by rw [blockK_same]; exact h
theorem blockK_m {id id' : Nat} (hn : id' ≠ id) (h : K (.exit id') s) : blockK id K (.exit id') s := by rw [blockK_other hn]; exact h
end
theorem VC.cutP {E : Env} {ρ : Option Nat} {st : St} {K : Exit → St → Prop} {ι : Type} {x y : Code} (ts : List Nat) (f : ι → Tm) (h : ι → List (Nat × Blk)) (p : ι → Prop) (hx : VC E ρ x st (thenK (fun s => ∃ j, p j ∧ Ent s (st.over ts (f j) (h j))) K))
 (hy : ∀ i, p i → VC E ρ y (st.over ts (f i) (h i)) K) : VC E ρ (.seq x y) st K := VC.cut _ p hx hy
end Go.Proofs.YtpajpkbipagjpaaGreatDoor.Vm
namespace Go.Proofs.YtpajpkbipagjpaaGreatDoor.Vm
open Go Go.RowKit
section
variable {Γ : Ctx} {st : St} {a : Act} {as : List Act} {β : Nat → Pl} {w : World}
theorem Sim.loopTurn (S : Sim Γ st a as β w) {l n : Nat} {tm : Tm} {ps : List Tmp} {as' bd : Code} {s0 : LoopState} {p0 : Option Code} (hf : find st.h l = some (.loop tm n ps as' bd s0 p0)) :
 ∃ b c sz r, β l = .blk b c sz ∧ w.heap[b]? = some (.loop r) ∧ r.params.toList = ps ∧ r.assign = as' ∧ r.body = bd ∧ r.state = s0 ∧ r.pending = p0 ∧ r.tmps.size = n ∧ (s0 = .exhausted ∨ b = Γ.pin l) ∧ (∀ t, RVD w (Im Γ β st.h w) β (look tm t) (r.tmps.getD t undef)) ∧
  ∀ s1 p1, (s1 = .exhausted ∨ s0 ≠ .exhausted) → Sim Γ (st.setB l (.loop tm n ps as' bd s1 p1)) a as β (w.putObj b (.loop { r with state := s1, pending := p1 })) := by
 obtain ⟨b, c, sz, r, hb, hge, hh, h1, h2, h3, h4, h5, h6, hp, h7⟩ := S.heap l _ hf
 refine ⟨b, c, sz, r, hb, hh, h1, h2, h3, h4, h5, h6, hp, h7, fun s1 p1 hs1 => ?_⟩
 have hlt := (Array.getElem?_eq_some_iff.1 hh).1
 have hmut : ∀ o, Mut β l (.loop tm n ps as' bd s0 p0) b o := fun o => ⟨c, sz, hb⟩
 have hne : ∀ b' o, Im Γ β st.h w b' o → b' ≠ b := by
  rintro b' o h rfl
  rcases h with h | ⟨_, _, h3⟩
  ·have := S.hJ _ _ h; omega
  ·exact h3 l _ hf (hmut o)
 refine S.turn (w' := w.putObj b (.loop { r with state := s1, pending := p1 })) hf (Below.put S.below hge) (by simp [World.putObj]) (fun b' o h => cell_of_heap (World.putObj_heap_other (hne b' o h)) o) (fun b' o h => h) (fun k B2 b2 c2 sz2 hk hf2 hb2 => ?_) fun K => ?_
 ·refine World.putObj_heap_other ?_
  rintro rfl
  exact hk (S.apart k l B2 _ _ _ _ _ _ hf2 hf hb2 hb)
 ·refine ⟨b, c, sz, { r with state := s1, pending := p1 }, hb, hge, World.putObj_heap_same hlt, h1, h2, h3, rfl, rfl, h6, ?_, fun t => (h7 t).keeps K⟩
  rcases hs1 with h | h
  ·exact .inl h
  ·exact .inr (hp.resolve_left h)
theorem Sim.pop {c fr : Fr} {rest : List Fr} {h : List (Nat × Blk)} {a0 : Act} (S : Sim Γ ⟨c, fr :: rest, h⟩ a (a0 :: as) β w) : Sim Γ ⟨fr, rest, h⟩ a0 as β w := by
 obtain ⟨h1, h2, h3, h4, h5, ⟨a1, as1, e, h6, h7⟩, h8⟩ := S
 injection e with e1 e2
 subst e1 e2
 exact ⟨h1, h2, h3, h4, h6, h7, h8⟩
def putAll : List Tmp → List D → Tm → Tm
 | p :: ps, d :: ds, tm => putAll ps ds ((p, d) :: tm)
 | _, _, tm => tm
theorem putAll_ok {w : World} {I : Cset} {n : Nat} {m : List Nat} : ∀ (ps : List Tmp) (ds : List D) (vs : List Value) (tm : Tm) (tmps : Array Value) (ds' : List Deferred), FrOK w I β ⟨n, tm, m⟩ ⟨tmps, ds'⟩ → RVDs w I β ds vs → (∀ p ∈ ps, p < n) →
 FrOK w I β ⟨n, putAll ps ds tm, m⟩ ⟨(ps.zip vs).foldl (fun t x => t.setIfInBounds x.1 x.2) tmps, ds'⟩
 | [], ds, vs, tm, tmps, ds', h, _, _ => by cases ds <;> exact h
 | p :: ps, [], vs, tm, tmps, ds', h, hv, _ => by
   simp only [RVDs] at hv; subst hv
   exact h
 | p :: ps, d :: ds, vs, tm, tmps, ds', h, hv, hp => by
   simp only [RVDs] at hv
   obtain ⟨v, r, rfl, h1, h2⟩ := hv
   have := h.put (t := p) (hp p (by simp)) h1
   exact putAll_ok ps ds r ((p, d) :: tm) _ ds' this h2 fun q hq => hp q (by simp [hq])
def St.round (st : St) (l : Nat) (tm : Tm) (n : Nat) (ps : List Tmp) (ds : List D) : St := ⟨⟨n, putAll ps ds tm, []⟩, st.c :: st.s, st.h⟩
def jumpOf : Exit → Option (Option Code)
 | .normal => some none
 | .ret => some (some .ret)
 | .exit id => some (some (.exit id))
 | .goto t => some (some (.goto t))
 | _ => none
def endS (l : Nat) (j : Option Code) (s : St) (K : D → St → Prop) : Prop :=
 match find s.h l, s.s with
 | some (.loop tm n ps a b .busy _), fr :: rest => K (.dat (.bool j.isNone)) ⟨fr, rest, hSet l (.loop tm n ps a b (if j.isNone then .ready else .done) j) s.h⟩
 | _, _ => False
def endK (l : Nat) (K : D → St → Prop) : Exit → St → Prop
 | .normal, s => endS l none s K
 | .ret, s => endS l (some .ret) s K
 | .exit id, s => endS l (some (.exit id)) s K
 | .goto t, s => endS l (some (.goto t)) s K
 | _, _ => False
def begS (E : Env) (l : Nat) (body : Code) (K : D → St → Prop) (s : St) : Prop :=
 match find s.h l with
 | some (.loop tm n ps a b .ready p) => VC E (some l) body (s.setB l (.loop tm n ps a b .busy p)) (endK l K)
 | _ => False
def begK (E : Env) (l : Nat) (body : Code) (K : D → St → Prop) : Exit → St → Prop
 | .normal, s => begS E l body K s
 | _, _ => False
theorem endS_ok {a0 : Act} (S : Sim Γ st a (a0 :: as) β w) {l : Nat} {j : Option Code} {K : D → St → Prop} (h : endS l j st K) :
 ∃ v w', (Instr.endRound (Γ.pin l) j).run Γ.P w = .ok v w' ∧ Back Γ a0 as K (.returned v) w' := by
 unfold endS at h
 split at h
 ·rename_i tm n ps a' b' p0 fr rest hf hs
  obtain ⟨b2, c2, sz2, r, hb2, hh, _, _, _, _, _, _, hp, _, ht⟩ := S.loopTurn hf
  obtain rfl : b2 = Γ.pin l := hp.resolve_left (by simp)
  refine ⟨_, _, run_endRound j hh, .bool j.isNone, .dat (.bool j.isNone), _, β, rfl, ?_, by simp only [RVD, RV], h⟩
  have hS := ht (if j.isNone then .ready else .done) j (.inr (by simp))
  obtain ⟨sc, ss, sh⟩ := st
  simp only at hs
  subst hs
  exact Sim.pop hS
 ·exact h.elim
theorem zip_foldl (xs : Array Tmp) (ys : Array Value) (init : Array Value) : (xs.zip ys).foldl (fun tmps (t, a) => tmps.setIfInBounds t a) init = (xs.toList.zip ys.toList).foldl (fun t x => t.setIfInBounds x.1 x.2) init := by
 rw [← Array.foldl_toList, Array.toList_zip]
theorem VCyield.round {E : Env} {l n : Nat} {tm : Tm} {ps : List Tmp} {ds : List D} {assign body : Code} {p0 : Option Code} {st : St} {K : D → St → Prop} (hf : find st.h l = some (.loop tm n ps assign body .ready p0)) (hlen : ds.length = ps.length)
 (hps : ∀ p ∈ ps, p < n) (h : VC E (some l) assign (st.round l tm n ps ds) (begK E l body K)) : VCyield E l ds st K := by
 intro Γ a as β w args b c sz hΓ S hb hargs
 subst hΓ
 obtain ⟨b2, c2, sz2, r, hb2, hh, e1, e2, e3, e4, e5, e6, hp, ht, -⟩ := S.loopTurn hf
 rw [hb] at hb2; injection hb2 with eb; subst eb
 obtain rfl : b = Γ.pin l := hp.resolve_left (by simp)
 have hsz : args.size = r.params.size := by
  have h1 := hargs.length
  have h2 := congrArg List.length e1
  simp at h1 h2
  omega
 refine ⟨r.fn, _, r.assign, r.body, run_yield hh hsz, roundIn_of_wpIn trivial ?_⟩
 rw [zip_foldl, e1, e2, e3]
 have S1 : Sim Γ (st.round l tm n ps ds) ⟨(ps.zip args.toList).foldl (fun t x => t.setIfInBounds x.1 x.2) r.tmps, []⟩ (a :: as) β w :=
  ⟨S.below, S.hJ, S.glob, S.apart, putAll_ok (m := []) ps ds args.toList tm r.tmps [] ⟨e6, ht, rfl⟩ hargs hps, ⟨a, as, rfl, S.cur, S.stk⟩, S.heap⟩
 refine wpIn_mono (h Γ _ (a :: as) β w rfl S1) ?_
 rintro e a1 w1 ⟨s1, β1, S2, k⟩
 cases e with
 | normal =>
   simp only [begK, begS] at k
   split at k
   ·rename_i tm' n' ps' as' bd' p' hf'
    obtain ⟨b3, c3, sz3, r3, hb3, hh3, g1, g2, g3, g4, g5, g6, hp3, ht3, turn3⟩ := S2.loopTurn hf'
    obtain rfl : b3 = Γ.pin l := hp3.resolve_left (by simp)
    subst g5
    refine ⟨_, run_beginRound hh3 g4, ?_⟩
    refine wpIn_mono (k Γ a1 (a :: as) β1 _ rfl (turn3 .busy r3.pending (.inr (by simp)))) ?_
    rintro e a3 w3 ⟨s3, β3, S3, k3⟩
    cases e with
    | normal => exact endS_ok S3 k3
    | ret => exact endS_ok S3 k3
    | exit id => exact endS_ok S3 k3
    | goto t => exact endS_ok S3 k3
    | _ => exact k3.elim
   ·exact k.elim
 | _ => exact k.elim
def St.ranged (st : St) (m l : Nat) (ps : List Tmp) (assign body : Code) : St :=
 let s1 := st.add m .defer
 let s2 := s1.add l (.loop (Tm.erase l s1.c.t) s1.c.n ps assign body .ready none)
 ⟨⟨s2.c.n, s2.c.t, m :: s2.c.m⟩, s2.s, s2.h⟩
def aftS (E : Env) (ρ : Option Nat) (l : Nat) (K : Exit → St → Prop) (s : St) : Prop :=
 match find s.h l with
 | some (.loop tm n ps a b .ready none) => K .normal (s.setB l (.loop tm n ps a b .exhausted none))
 | some (.loop tm n ps a b .done none) => K .normal (s.setB l (.loop tm n ps a b .exhausted none))
 | some (.loop tm n ps a b .done (some c)) => VC E ρ c (s.setB l (.loop tm n ps a b .exhausted (some c))) K
 | _ => False
theorem Sim.repin (S : Sim Γ st a as β w) (pin' : Nat → Nat) (h : ∀ l tm n ps a b s p, find st.h l = some (.loop tm n ps a b s p) → s = .exhausted ∨ pin' l = Γ.pin l) : Sim { Γ with pin := pin' } st a as β w := by
 refine ⟨S.below, S.hJ, S.glob, S.apart, S.cur, S.stk, fun l B hB => ?_⟩
 have hk := S.heap l B hB
 cases B with
 | loop tm n ps assign body state pend =>
   obtain ⟨b, c, sz, r, hb, hge, hh, e1, e2, e3, e4, e5, e6, e7, ht⟩ := hk
   refine ⟨b, c, sz, r, hb, hge, hh, e1, e2, e3, e4, e5, e6, ?_, ht⟩
   rcases h l _ _ _ _ _ _ _ hB with e | e
   ·exact .inl e
   ·rcases e7 with e7 | e7
    ·exact .inl e7
    ·exact .inr (e7.trans e.symm)
 | cells cs fz => exact hk
 | arr e sz xs fz => exact hk
 | defer => exact hk
theorem Sim.ranged (S : Sim Γ st a as β w) (m l : Nat) (ps : Array Tmp) (assign body : Code) (fn : FuncId) (hml : m ≠ l) (hm : st.noMark m) (hl : (st.add m .defer).noMark l) (hpin : Γ.pin l = w.heap.size + 1) :
 ∃ β', β' l = .blk (w.heap.size + 1) 1 1 ∧ Sim Γ (st.ranged m l ps.toList assign body) { a with defers := [{ target := .collected w.heap.size, args := #[] }] ++ a.defers } as β'
  ((w.alloc (.deferred (some []))).alloc (.loop { state := .ready, pending := none, fn, tmps := a.tmps, params := ps, assign, body, defers := w.heap.size })) := by
 have S1 := S.alloc m .defer (.deferred (some [])) 1 1 hm ⟨w.heap.size, 1, 1, upd_same _ _ _, S.below.size, World.alloc_heap_new w _⟩
 have hsz : (w.alloc (.deferred (some []))).heap.size = w.heap.size + 1 := World.size_alloc _ _
 have S2 := S1.alloc l (.loop (Tm.erase l (st.add m .defer).c.t) (st.add m .defer).c.n ps.toList assign body .ready none)
  (.loop { state := .ready, pending := none, fn, tmps := a.tmps, params := ps, assign, body, defers := w.heap.size }) 1 1 hl ?_
 ·refine ⟨_, ?_, S2.below, S2.hJ, S2.glob, S2.apart, ⟨S2.cur.1, S2.cur.2.1, ?_⟩, S2.stk, S2.heap⟩
  ·rw [upd_same, hsz]
  ·show _ = List.map _ (m :: _)
   rw [List.map_cons, List.singleton_append]
   exact congr (congrArg List.cons (by rw [upd_ne m hml, upd_same])) S2.cur.2.2
 ·have K := Im.alloc S1 l (.loop (Tm.erase l (st.add m .defer).c.t) (st.add m .defer).c.n ps.toList assign body .ready none)
   (.loop { state := .ready, pending := none, fn, tmps := a.tmps, params := ps, assign, body, defers := w.heap.size }) 1 1
  have hF := (S1.cur.keeps K).erase (β' := upd (upd β m (.blk w.heap.size 1 1)) l (.blk (w.alloc (.deferred (some []))).heap.size 1 1)) (upd_ne) hl.1
  exact ⟨_, 1, 1, _, upd_same _ _ _, by rw [hsz]; have := S.below.size; omega, World.alloc_heap_new _ _, rfl, rfl, rfl, rfl, rfl, hF.1, .inr (by rw [hsz]; exact hpin.symm), hF.2.1⟩
theorem aftS_ok {Q : Exit → St → Prop} {ρ : Option Nat} {E : Env} {l : Nat} {pin0 : Nat → Nat} (hE : Γ.toEnv = E) (S : Sim Γ st a as β w) (hpin : ∀ k, k ≠ l → pin0 k = Γ.pin k) (h : aftS E ρ l Q st) :
 ∃ jump w4, (Instr.endLoop (Γ.pin l)).run Γ.P w = .ok jump w4 ∧
  match jump with
  | none => ∃ st' β', Sim { Γ with pin := pin0 } st' a as β' w4 ∧ Q .normal st'
  | some c => c.wpIn (Fw (ρ.map pin0)) 0 Γ.P (fun e a w => ∃ st' β', Sim { Γ with pin := pin0 } st' a as β' w ∧ Q e st') a w4 := by
 have key : ∀ {tm n ps a' b' s0 p0}, find st.h l = some (.loop tm n ps a' b' s0 p0) → s0 ≠ .exhausted → s0 ≠ .busy → ∃ w4, (Instr.endLoop (Γ.pin l)).run Γ.P w = .ok p0 w4 ∧ Sim { Γ with pin := pin0 } (st.setB l (.loop tm n ps a' b' .exhausted p0)) a as β w4 := by
  intro tm n ps a' b' s0 p0 hf hne hnb
  obtain ⟨b2, c2, sz2, r, hb2, hh, e1, e2, e3, e4, e5, e6, hp, _, ht⟩ := S.loopTurn hf
  obtain rfl : b2 = Γ.pin l := hp.resolve_left hne
  have := ht .exhausted p0 (.inl rfl)
  subst e5
  refine ⟨_, run_endLoop hh (by rw [e4]; exact hnb), this.repin pin0 fun k tm n ps a b s p hk => ?_⟩
  by_cases ek : k = l
  ·subst ek
   simp only [St.setB, find_hSet, if_pos, hf, Option.map_some, Option.some.injEq] at hk
   injection hk with _ _ _ _ _ h6
   exact .inl h6.symm
  ·exact .inr (hpin k ek)
 unfold aftS at h
 split at h
 ·rename_i hf
  obtain ⟨w4, h1, h2⟩ := key hf (by simp) (by simp)
  exact ⟨_, w4, h1, _, β, h2, h⟩
 ·rename_i hf
  obtain ⟨w4, h1, h2⟩ := key hf (by simp) (by simp)
  exact ⟨_, w4, h1, _, β, h2, h⟩
 ·rename_i c hf
  obtain ⟨w4, h1, h2⟩ := key hf (by simp) (by simp)
  subst hE
  exact ⟨_, w4, h1, h { Γ with pin := pin0 } a as β w4 rfl h2⟩
 ·exact h.elim
theorem VC.range {E : Env} {K : Exit → St → Prop} {g : Operand} {ps : Array Tmp} {assign body : Code} {f : Nat} {ys : List D} (m l : Nat) (hml : m ≠ l) (hm : st.noMark m) (hl : (st.add m .defer).noMark l) (hfr : find st.h l = none)
 (hg : evO E (st.ranged m l ps.toList assign body) g = .fn (.func f) [] ys) (hc : callable E.P f = true)
 (h : VCcall E f (.yld l :: ys) (st.ranged m l ps.toList assign body) (fun _ s => aftS E none l K s)) : VC E none (.rangeFunc g ps assign body) st K := by
 intro Γ a as β w hΓ S
 subst hΓ
 refine wpIn_rangeFunc ?_
 intro fn hfn
 have S' : Sim { Γ with pin := fun k => if k = l then w.heap.size + 1 else Γ.pin k } st a as β w := S.repin _ fun k tm n ps a b s p hk => .inr (by
  show (if k = l then _ else _) = _
  rw [if_neg]
  rintro rfl
  rw [hfr] at hk; cases hk)
 obtain ⟨β', hβ, S2⟩ := S'.ranged m l ps assign body fn hml hm hl (if_pos rfl)
 obtain ⟨W, hW⟩ : ∃ W, (w.alloc (.deferred (some []))).alloc (.loop { state := .ready, pending := none, fn, tmps := a.tmps, params := ps, assign, body, defers := w.heap.size }) = W := ⟨_, rfl⟩
 have hent := run_enterLoop_outer (P := Γ.P) (w := w) fn a.tmps ps assign body
 rw [hW] at hent S2
 have hv := S2.eval g
 rw [show evO ({ Γ with pin := fun k => if k = l then w.heap.size + 1 else Γ.pin k } : Ctx).toEnv (st.ranged m l ps.toList assign body) g = .fn (.func f) [] ys from hg] at hv
 simp only [RVD] at hv
 obtain ⟨vs, us, hv, hvs, hus⟩ := hv
 have hvs : vs = #[] := by
  simp only [RVDs] at hvs
  apply Array.ext'; simpa using hvs
 subst hvs
 have hv' : a.eval g = .func (.func f) #[] us := hv
 refine ⟨w.heap.size + 1, [{ target := .collected w.heap.size, args := #[] }], W, { target := .fn (.func f) us, args := #[.func (.yield (w.heap.size + 1)) #[] #[]] }, W, f,
  #[.func (.yield (w.heap.size + 1)) #[] #[]] ++ us, W, hent, ?_, fun _ _ => trivial, ?_, fun e => by simp [Fw, Fence.wide] at e, ?_⟩
 ·simp only [resolve, hv']
  simp [go_sem]
 ·simp [invoke, go_sem, callable_ok hc]
 ·have := h { Γ with pin := fun k => if k = l then w.heap.size + 1 else Γ.pin k } _ as β' _ (#[.func (.yield (w.heap.size + 1)) #[] #[]] ++ us) rfl S2 ?_
  ·refine this.mono ?_
   rintro e w3 ⟨v, d, s3, β3, rfl, S3, -, k⟩
   obtain ⟨jump, w4, h1, h2⟩ := aftS_ok (Γ := { Γ with pin := fun k => if k = l then w.heap.size + 1 else Γ.pin k }) (pin0 := Γ.pin) (E := Γ.toEnv) rfl S3 (fun k hk => (if_neg hk).symm) k
   refine ⟨jump, w4, ?_, ?_⟩
   ·have e : ({ Γ with pin := fun k => if k = l then w.heap.size + 1 else Γ.pin k } : Ctx).pin l = w.heap.size + 1 := if_pos rfl
    rw [e] at h1
    exact h1
   ·cases jump with
    | none => exact h2
    | some c => exact h2
  ·simp only [Array.toList_append, List.singleton_append, RVDs, RVD]
   exact ⟨_, _, rfl, ⟨_, _, _, hβ, rfl⟩, hus⟩
end
end Go.Proofs.YtpajpkbipagjpaaGreatDoor.Vm
namespace Go.Proofs.YtpajpkbipagjpaaGreatDoor.Vm
open Go Go.RowKit
section
variable {P : Program} {b : Frame} {a : Act} {k : List Item} {cs : List Frame} {w : World} {Q : Exit → Act → World → Prop} {F : Fence} {n : Nat}
theorem stepR_scope' {c : Code} : step P (lone (b.atR a (.code (.scope c) :: k)) cs w) = .next (lone (b.atR a (.code c :: .inScope c :: k)) cs w) :=
 step_lone_go (by simp [stepG, stepG.exec, Frame.atR])
theorem stepR_inScope' {c : Code} : step P (lone (b.atR a (.inScope c :: k)) cs w) = .next (lone (b.atR a k) cs w) :=
 step_lone_go (by simp [stepG, stepG.exec, Frame.atR])
theorem wpIn_scope_plain {c : Code} (h : c.wpIn F n P (fun e a w => match e with | .goto _ => False | e => Q e a w) a w) : (Code.scope c).wpIn F n P Q a w := by
 intro b k cs hro hb hr
 have h0 : (lone (b.atR a (.code (.scope c) :: k)) cs w).fenced P F := fenced_calm hb hr rfl
 obtain ⟨e, a₁, w₁, hq, harr⟩ := h b (.inScope c :: k) cs hro hb hr
 cases e with
 | normal => exact ⟨.normal, a₁, w₁, hq, .head h0 stepR_scope' (StepsIn.trans harr (.one (fenced_calm hb hr rfl) stepR_inScope'))⟩
 | exit id' =>
   have hx : exitTo id' (.inScope c :: k) = exitTo id' k := by simp [exitTo]
   exact ⟨.exit id', a₁, w₁, hq, fun k' hk => .head h0 stepR_scope' (harr.1 k' (by rw [hx]; exact hk)),
    fun hr' hk => let ⟨k₁, h1, h2⟩ := harr.2 hr' (by rw [hx]; exact hk); ⟨k₁, h1, .head h0 stepR_scope' h2⟩⟩
 | goto l => exact hq.elim
 | ret => exact ⟨_, a₁, w₁, hq, .of_steps (.one h0 stepR_scope') harr⟩
 | panic ch => exact ⟨_, a₁, w₁, hq, .of_steps (.one h0 stepR_scope') harr⟩
 | outgrown => exact ⟨_, a₁, w₁, hq, .of_steps (.one h0 stepR_scope') harr⟩
end
section
variable {E : Env} {ρ : Option Nat} {st : St} {K : Exit → St → Prop}
def scopeK (K : Exit → St → Prop) : Exit → St → Prop
 | .goto _, _ => False
 | e, s => K e s
theorem VC.scope {c : Code} (h : VC E ρ c st (scopeK K)) : VC E ρ (.scope c) st K := fun Γ a as β w hΓ S => by
 refine wpIn_scope_plain (wpIn_mono (h Γ a as β w hΓ S) ?_)
 rintro e a' w' ⟨st', β', S', k⟩
 cases e with
 | goto l => exact k.elim
 | _ => exact ⟨st', β', S', k⟩
theorem scopeK_n {s : St} (h : K .normal s) : scopeK K .normal s := h
theorem scopeK_e {id : Nat} {s : St} (h : K (.exit id) s) : scopeK K (.exit id) s := h
theorem scopeK_r {s : St} (h : K .ret s) : scopeK K .ret s := h
theorem VC.rangeO {g : Operand} {ps : Array Tmp} {assign body : Code} {f : Nat} {ys : List D} (m l : Nat) (hml : m ≠ l) (hm : st.noMark m) (hl : (st.add m .defer).noMark l) (hfr : find st.h l = none)
 (hc : callable E.P f = true) (hg : ∀ A B, evO E (st.ranged m l ps.toList A B) g = .fn (.func f) [] ys)
 (h : ∀ A B, A = assign → B = body → VCcall E f (.yld l :: ys) (st.ranged m l ps.toList A B) (fun _ s => aftS E none l K s)) : VC E none (.rangeFunc g ps assign body) st K :=
 VC.range m l hml hm hl hfr (hg _ _) hc (h _ _ rfl rfl)
end
theorem pureK_r {P : Program} {rs : List ResultVar} {res : List Data} {s : St} (h : pureS P rs res s) : pureK P rs res .ret s := h
attribute [go_sem] putAll St.round begS begK endS endK St.ranged Option.isNone_some Option.isNone_none
end Go.Proofs.YtpajpkbipagjpaaGreatDoor.Vm
namespace Go.Proofs.YtpajpkbipagjpaaGreatDoor.Vm
open Go Go.RowKit
theorem find_mem {h : List (Nat × Blk)} {l : Nat} {B : Blk} (hf : find h l = some B) : (l, B) ∈ h := by
 induction h with
 | nil => cases hf
 | cons x r ih =>
   simp only [find] at hf
   by_cases e : x.1 = l
   ·rw [if_pos e] at hf
    injection hf with hf
    subst e hf
    simp
   ·rw [if_neg e] at hf
    simp [ih hf]
theorem Ent.to {s : St} {n : Nat} {tm : Tm} {m : List Nat} {fs : List Fr} {h : List (Nat × Blk)} (hn : s.c.n = n) (hm : s.c.m = m) (hs : s.s = fs) (ht : ∀ x ∈ tm, look s.c.t x.1 = x.2) (hh : ∀ x ∈ h, find s.h x.1 = some x.2) : Ent s ⟨⟨n, tm, m⟩, fs, h⟩ :=
 (Ent.into (h := s.h) ht hn hm hs rfl).trans (Ent.fewer fun l B hB => hh (l, B) (find_mem hB))
theorem Ent.nilT {s : St} (t l e sz : Nat) (hsz : 0 < sz) (hm : s.noMark l) (ht : look s.c.t t = .nilsl) : Ent s ((s.add l (.arr e sz [] 0)).put t (.sl l 0 0)) := fun Γ a as β w S => by
 have S' := S.nilin l e sz hsz hm
 refine ⟨_, S'.know ?_⟩
 have := S.get t
 rw [ht] at this
 simp only [RVD] at this
 obtain ⟨a', h'⟩ := this
 rw [h']
 exact RVD.nilrow (upd_same _ _ _) a'
theorem runA_id {E : Env} {Φ : Fns} {t : Nat} {l : List SO} {s : St} {K : St → Prop} {r : QA} (h : runA E Φ t l s K r) : runA E Φ t l s K r := h
theorem goA_id {E : Env} {Φ : Fns} {dst : Option Nat} {l : List SO} {st : St} {K : St → Prop} {r : Ans} (h : goA E Φ dst l st K r) : goA E Φ dst l st K r := h
attribute [go_sem] List.mem_cons forall_eq_or_imp
end Go.Proofs.YtpajpkbipagjpaaGreatDoor.Vm
namespace Go.Proofs.YtpajpkbipagjpaaGreatDoor.Vm
open Go Go.RowKit
noncomputable def PFn.of {α : Type} (A : α → List Data) (pre : α → Prop) (res : α → List Data) : PFn :=
 ⟨fun ds => ∃ x, ds = A x ∧ pre x, fun ds => by classical exact if h : ∃ x, ds = A x then res (Classical.choose h) else []⟩
theorem PFn.of_pre {α : Type} {A : α → List Data} {pre : α → Prop} {res : α → List Data} (hA : ∀ x y, A x = A y → x = y) (x : α) : (PFn.of A pre res).pre (A x) = pre x :=
 propext ⟨fun ⟨y, e, h⟩ => hA x y e ▸ h, fun h => ⟨x, rfl, h⟩⟩
theorem PFn.of_res {α : Type} {A : α → List Data} {pre : α → Prop} {res : α → List Data} (hA : ∀ x y, A x = A y → x = y) (x : α) : (PFn.of A pre res).res (A x) = res x := by
 classical
 have h : ∃ y, A x = A y := ⟨x, rfl⟩
 unfold PFn.of
 simp only []
 rw [dif_pos h]
 exact congrArg res (hA _ _ (Classical.choose_spec h)).symm
def numsD (l : List Nat) : List (List Data) := l.map fun n : Nat => [.int .u64 (n : Int)]
theorem numsD_inj {l m : List Nat} : numsD l = numsD m ↔ l = m := by
 constructor
 ·intro h
  have : ∀ (l m : List Nat), numsD l = numsD m → l = m := by
   intro l
   induction l with
   | nil => intro m h; cases m with | nil => rfl | cons => simp [numsD] at h
   | cons a l ih =>
     intro m h
     cases m with
     | nil => simp [numsD] at h
     | cons b m =>
       simp only [numsD, List.map_cons, List.cons.injEq, Data.int.injEq, true_and, and_true, Int.natCast_inj] at h
       rw [h.1, ih m h.2]
  exact this l m h
 ·rintro rfl; rfl
theorem bytesD_inj {l m : List UInt8} : bytesD l = bytesD m ↔ l = m := by
 constructor
 ·intro h
  have := congrArg u8s h
  rw [u8s_bytesD, u8s_bytesD] at this
  exact Option.some.inj this
 ·rintro rfl; rfl
theorem numsD_len (l : List Nat) : (numsD l).length = l.length := by simp [numsD]
theorem bytesD_len (l : List UInt8) : (bytesD l).length = l.length := by simp [bytesD]
theorem numsD_at {l : List Nat} {k : Nat} (h : k < l.length) : (numsD l).getD k [] = [.int .u64 ((l.getD k 0 : Nat) : Int)] := by
 simp [numsD, List.getD_eq_getElem?_getD, List.getElem?_map, List.getElem?_eq_getElem h]
theorem bytesD_at {l : List UInt8} {k : Nat} (h : k < l.length) : (bytesD l).getD k [] = [.int .u8 ((l.getD k 0).toNat : Int)] := by
 simp [bytesD, List.getD_eq_getElem?_getD, List.getElem?_map, List.getElem?_eq_getElem h]
theorem numsD_take (l : List Nat) (n : Nat) : (numsD l).take n = numsD (l.take n) := by simp [numsD, List.map_take]
theorem numsD_drop (l : List Nat) (n : Nat) : (numsD l).drop n = numsD (l.drop n) := by simp [numsD, List.map_drop]
theorem bytesD_take (l : List UInt8) (n : Nat) : (bytesD l).take n = bytesD (l.take n) := by simp [bytesD, List.map_take]
theorem bytesD_drop (l : List UInt8) (n : Nat) : (bytesD l).drop n = bytesD (l.drop n) := by simp [bytesD, List.map_drop]
theorem numsD_one (l : List Nat) : (∀ x ∈ numsD l, x.length = 1) = True := by simp [numsD]
theorem bytesD_one (l : List UInt8) : (∀ x ∈ bytesD l, x.length = 1) = True := by simp [bytesD]
theorem numsD_snoc (l : List Nat) (v : Nat) : numsD l ++ [[.int .u64 (v : Int)]] = numsD (l ++ [v]) := by simp [numsD]
theorem bytesD_snoc (l : List UInt8) (v : UInt8) : bytesD l ++ [[.int .u8 (v.toNat : Int)]] = bytesD (l ++ [v]) := by simp [bytesD]
theorem bytesD_append (l m : List UInt8) : bytesD l ++ bytesD m = bytesD (l ++ m) := by simp [bytesD]
attribute [go_sem] numsD_len bytesD_len numsD_take numsD_drop bytesD_take bytesD_drop numsD_one bytesD_one bytesD_append u8s_bytesD
attribute [go_sem] Int.toNat_natCast Int.toNat_zero Int.toNat_one
end Go.Proofs.YtpajpkbipagjpaaGreatDoor.Vm
namespace Go.Proofs.YtpajpkbipagjpaaGreatDoor.Vm
open Go Go.RowKit
def marks (k : Nat) : List Nat := (List.range k).reverse.map (100 + ·)
def marksH (k : Nat) : List (Nat × Blk) := (marks k).map fun l => (l, .defer)
theorem marks_succ (k : Nat) : marks (k + 1) = (100 + k) :: marks k := by
 simp [marks, List.range_succ]
theorem marksH_succ (k : Nat) : marksH (k + 1) = (100 + k, .defer) :: marksH k := by simp [marksH, marks_succ]
theorem marks_zero : marks 0 = [] := rfl
theorem marksH_zero : marksH 0 = [] := rfl
theorem marks_mem {k l : Nat} : l ∈ marks k ↔ 100 ≤ l ∧ l < 100 + k := by
 simp only [marks, List.mem_map, List.mem_reverse, List.mem_range]
 constructor
 ·rintro ⟨a, h, rfl⟩; omega
 ·intro h; exact ⟨l - 100, by omega, by omega⟩
theorem marks_lit {k l : Nat} (h : l < 100) : (l ∈ marks k) = False := by
 simp only [marks_mem, eq_iff_iff, iff_false]; omega
theorem marks_new {k : Nat} : (100 + k ∈ marks k) = False := by
 simp only [marks_mem, eq_iff_iff, iff_false]; omega
theorem marks_nodup (k : Nat) : (marks k).Nodup := by
 induction k with
 | zero => exact List.nodup_nil
 | succ k ih => rw [marks_succ]; exact List.nodup_cons.2 ⟨by rw [marks_new]; exact id, ih⟩
theorem find_marksH {k l : Nat} : find (marksH k) l = if 100 ≤ l ∧ l < 100 + k then some .defer else none := by
 induction k with
 | zero => rw [if_neg (by omega)]; rfl
 | succ k ih =>
   rw [marksH_succ]
   simp only [find, ih]
   by_cases e : 100 + k = l
   ·rw [if_pos e, if_pos (by omega)]
   ·rw [if_neg e]
    by_cases h : 100 ≤ l ∧ l < 100 + k
    ·rw [if_pos h, if_pos (by omega)]
    ·rw [if_neg h, if_neg (by omega)]
theorem find_marksH_lit {k l : Nat} (h : l < 100) : find (marksH k) l = none := by rw [find_marksH, if_neg (by omega)]
theorem find_marksH_new {k : Nat} : find (marksH k) (100 + k) = none := by rw [find_marksH, if_neg (by omega)]
theorem hErase_marksH {k l : Nat} (h : ¬ (100 ≤ l ∧ l < 100 + k)) : hErase l (marksH k) = marksH k := by
 induction k with
 | zero => rfl
 | succ k ih =>
   rw [marksH_succ]
   simp only [hErase]
   rw [if_neg (by omega), ih (by omega)]
   rfl
theorem hErase_marksH_lit {k l : Nat} (h : l < 100) : hErase l (marksH k) = marksH k := hErase_marksH (by omega)
theorem hErase_marksH_new {k : Nat} : hErase (100 + k) (marksH k) = marksH k := hErase_marksH (by omega)
theorem hSet_marksH_lit {k l : Nat} {B : Blk} (h : l < 100) : hSet l B (marksH k) = marksH k := by
 induction k with
 | zero => rfl
 | succ k ih =>
   rw [marksH_succ]
   simp only [hSet]
   rw [if_neg (by omega), ih]
theorem marksH_all {k : Nat} {h : List (Nat × Blk)} (hf : ∀ j, j < k → find h (100 + j) = some .defer) : ∀ x ∈ marksH k, find h x.1 = some x.2 := by
 intro x hx
 simp only [marksH, List.mem_map] at hx
 obtain ⟨l, hl, rfl⟩ := hx
 rw [marks_mem] at hl
 have := hf (l - 100) (by omega)
 rwa [show 100 + (l - 100) = l by omega] at this
theorem find_marksH_at {k j : Nat} (h : j < k) : find (marksH k) (100 + j) = some .defer := by rw [find_marksH, if_pos (by omega)]
theorem find_cons_ne {x : Nat × Blk} {r : List (Nat × Blk)} {l : Nat} (h : x.1 ≠ l) : find (x :: r) l = find r l := by simp only [find, if_neg h]
theorem lit_ne {a j : Nat} (h : a < 100) : (a = 100 + j) = False := by simp only [eq_iff_iff, iff_false]; omega
theorem lit_ne' {a j : Nat} (h : a < 100) : (100 + j = a) = False := by simp only [eq_iff_iff, iff_false]; omega
theorem dropH_marks (k : Nat) (h : List (Nat × Blk)) (hh : ∀ x ∈ h, x.1 < 100) : dropH (marks k) (h ++ marksH k) = h := by
 induction k with
 | zero => simp [marks_zero, marksH_zero, dropH]
 | succ k ih =>
   rw [marks_succ, marksH_succ]
   show dropH (marks k) ((h ++ _).filter _) = h
   rw [List.filter_append, List.filter_cons]
   have h1 : h.filter (fun x => !(x.1 == 100 + k)) = h := List.filter_eq_self.2 fun x hx => by
    have := hh x hx
    simp; omega
   have h2 : (marksH k).filter (fun x => !(x.1 == 100 + k)) = marksH k := List.filter_eq_self.2 fun x hx => by
    simp only [marksH, List.mem_map] at hx
    obtain ⟨l, hl, rfl⟩ := hx
    rw [marks_mem] at hl
    simp; omega
   rw [h1, h2]
   simpa using ih
theorem defers_all {k : Nat} {h : List (Nat × Blk)} (hh : ∀ x ∈ h, x.1 < 100) : ∀ l ∈ marks k, find (h ++ marksH k) l = some .defer := by
 intro l hl
 rw [marks_mem] at hl
 have : ∀ (h : List (Nat × Blk)), (∀ x ∈ h, x.1 < 100) → find (h ++ marksH k) l = find (marksH k) l := by
  intro h
  induction h with
  | nil => intro _; rfl
  | cons x r ih =>
    intro hh
    rw [List.cons_append, find_cons_ne (by have := hh x (by simp); omega)]
    exact ih fun y hy => hh y (by simp [hy])
 rw [this h hh, find_marksH, if_pos (by omega)]
def St.overM (st : St) (ts : List Nat) (f : Tm) (m : List Nat) (h : List (Nat × Blk)) : St := ⟨⟨st.c.n, f ++ keepT ts st.c.t, m⟩, st.s, h⟩
theorem VC.loopM {E : Env} {ρ : Option Nat} {st : St} {K : Exit → St → Prop} {ι : Type} {c : Code} (ts : List Nat) (f : ι → Tm) (m : ι → List Nat) (h : ι → List (Nat × Blk)) (p : ι → Prop) (μ : ι → Nat) (i0 : ι) (hp : p i0)
 (h0 : Ent st (st.overM ts (f i0) (m i0) (h i0))) (step : ∀ i, p i → VC E ρ c (st.overM ts (f i) (m i) (h i)) (thenK (fun s => ∃ j, p j ∧ Ent s (st.overM ts (f j) (m j) (h j)) ∧ μ j < μ i) K)) : VC E ρ (.loop c) st K :=
 VC.loop (fun i => st.overM ts (f i) (m i) (h i)) p μ i0 hp h0 step
def hSets : List (Nat × Blk) → List (Nat × Blk) → List (Nat × Blk)
 | [], h => h
 | x :: r, h => hSets r (hSet x.1 x.2 h)
theorem VC.loopS {E : Env} {ρ : Option Nat} {st : St} {K : Exit → St → Prop} {ι : Type} {c : Code} (ts : List Nat) (f : ι → Tm) (g : ι → List (Nat × Blk)) (p : ι → Prop) (μ : ι → Nat) (i0 : ι) (hp : p i0)
 (h0 : Ent st (st.over ts (f i0) (hSets (g i0) st.h))) (step : ∀ i, p i → VC E ρ c (st.over ts (f i) (hSets (g i) st.h)) (thenK (fun s => ∃ j, p j ∧ Ent s (st.over ts (f j) (hSets (g j) st.h)) ∧ μ j < μ i) K)) : VC E ρ (.loop c) st K :=
 VC.loop (fun i => st.over ts (f i) (hSets (g i) st.h)) p μ i0 hp h0 step
attribute [go_sem] lit_ne lit_ne' find_marksH_lit hErase_marksH_lit hSet_marksH_lit marks_lit St.overM hSets Rest find_marksH_new hErase_marksH_new marks_new
end Go.Proofs.YtpajpkbipagjpaaGreatDoor.Vm
namespace Go.Proofs.YtpajpkbipagjpaaGreatDoor.Vm
open Go Go.RowKit
theorem RVDs.setAt {w : World} {I : Cset} {β : Nat → Pl} : ∀ {ds : List D} {vs : List Value} (i : Nat) {d : D}, RVDs w I β ds vs → (∀ v, vs[i]? = some v → RVD w I β d v) → RVDs w I β (ds.set i d) vs
 | [], vs, i, d, h, _ => h
 | x :: ds, vs, 0, d, h, hd => by
   simp only [RVDs, List.set_cons_zero] at h ⊢
   obtain ⟨v, r, rfl, h1, h2⟩ := h
   exact ⟨v, r, rfl, hd v rfl, h2⟩
 | x :: ds, vs, i + 1, d, h, hd => by
   simp only [RVDs, List.set_cons_succ] at h ⊢
   obtain ⟨v, r, rfl, h1, h2⟩ := h
   exact ⟨v, r, rfl, h1, RVDs.setAt i h2 fun u hu => hd u (by simpa using hu)⟩
theorem Ent.nilC {s : St} (l0 i l e sz : Nat) {cs : List D} {fz : Bool} (hsz : 0 < sz) (hm : s.noMark l) (hl : l0 ≠ l) (hf : find s.h l0 = some (.cells cs fz)) (hi : cs[i]? = some .nilsl) :
 Ent s ((s.add l (.arr e sz [] 0)).setB l0 (.cells ((D.erases l cs).set i (.sl l 0 0)) fz)) := fun Γ a as β w S => by
 have S' := S.nilin l e sz hsz hm
 have hf' : find (s.add l (.arr e sz [] 0)).h l0 = some (.cells (D.erases l cs) fz) := by
  simp only [St.add, find_cons, find_hErase]
  rw [if_neg (Ne.symm hl), if_neg hl, hf]
  rfl
 refine ⟨_, S'.turn hf' S'.below (Nat.le_refl _) (fun _ _ _ => rfl) (fun b o h => h) (fun _ _ _ _ _ _ _ _ => rfl) fun K => ?_⟩
 obtain ⟨b, c, sz', cur, e', hb, hge, hh, hc⟩ := S'.heap l0 _ hf'
 refine ⟨b, c, sz', cur, e', hb, hge, hh, RVDs.setAt i (RVDs.keeps K _ _ hc) fun v hv => ?_⟩
 obtain ⟨b2, c2, sz2, cur2, e2, hb2, _, hh2, hc2⟩ := S.heap l0 _ hf
 rw [upd_ne l0 hl, hb2] at hb
 injection hb with h1 h2 h3
 subst h1
 rw [hh2] at hh
 injection hh with hh
 injection hh with h4 h5
 subst h4
 obtain ⟨u, hu, hr⟩ := hc2.at i _ hi
 rw [hv] at hu
 injection hu with hu
 subst hu
 simp only [RVD] at hr
 obtain ⟨a', rfl⟩ := hr
 exact RVD.nilrow (upd_same _ _ _) a'
def pureR (P : Program) (rs : List ResultVar) (res : List Data) (s : St) : Prop :=
 match resD P s rs with
 | some ds => match frzs s ds with
   | some (xs, _) => xs = res
   | none => False
 | none => False
theorem pureS_intro {P : Program} {rs : List ResultVar} {res : List Data} {s : St} {h' : List (Nat × Blk)} (h1 : ∀ l ∈ s.c.m, find s.h l = some .defer) (h2 : s.c.m.Nodup) (h3 : dropH s.c.m s.h = h') (h4 : pureR P rs res ⟨s.c, s.s, h'⟩) : pureS P rs res s :=
 ⟨h1, h2, by rw [h3]; exact h4⟩
theorem all_cons {α : Type} {p : α → Prop} {a : α} {l : List α} (h1 : p a) (h2 : ∀ x ∈ l, p x) : ∀ x ∈ a :: l, p x := fun x hx => by
 rcases List.mem_cons.1 hx with rfl | hx
 ·exact h1
 ·exact h2 x hx
theorem all_at {α : Type} {p : α → Prop} {l l' : List α} (h : l = l') (hv : ∀ x ∈ l', p x) : ∀ x ∈ l, p x := h ▸ hv
theorem all_nil {α : Type} {p : α → Prop} : ∀ x ∈ ([] : List α), p x := fun x hx => by cases hx
theorem marks_tail {k : Nat} {h : List (Nat × Blk)} (r : List (Nat × Blk)) (hr : h = r ++ marksH k) (hh : ∀ x ∈ r, x.1 < 100 ∨ 100 + k ≤ x.1) : ∀ x ∈ marksH k, find h x.1 = some x.2 := by
 refine marksH_all fun j hj => ?_
 subst hr
 induction r with
 | nil => exact find_marksH_at hj
 | cons x r ih =>
   rw [List.cons_append, find_cons_ne]
   ·exact ih fun y hy => hh y (by simp [hy])
   ·have := hh x (by simp); omega
attribute [go_sem] Int.sub_zero forall_eq or_self or_false false_or List.range_zero List.getD_cons_zero List.getD_cons_succ List.getD_nil pureR Nat.zero_add Nat.add_zero Nat.le_refl List.take_length
end Go.Proofs.YtpajpkbipagjpaaGreatDoor.Vm
namespace Go.Proofs.YtpajpkbipagjpaaGreatDoor.Vm
open Go Go.RowKit
section
variable {Γ : Ctx} {st : St} {a : Act} {as : List Act} {β : Nat → Pl} {w : World}
end
end Go.Proofs.YtpajpkbipagjpaaGreatDoor.Vm

/- An abstract machine over values: regions whose order is drawn, loops, joints (third part). No condition. -/
import Derived.Test.YtfbodageccednaaDoorVmB
set_option linter.unusedVariables false
set_option linter.unusedSimpArgs false
namespace Go.Proofs.YtfbodageccednaaDoor.Vm
open Go Go.RowKit
def evQIface (E : Env) (t : TypeId) (x : D) : QA :=
  match kindT E.P t, x with
  | .iface, _ => .stop
  | .other, _ => .stop
  | _, .dat d => .val (.dat (.iface t d))
  | _, _ => .stop
def evQExtract (x : D) (i : Nat) : QA :=
  match x with
  | .tup cs => match cs[i]? with
    | some d => .val d
    | none => .stop
  | _ => .stop
def evQPick (c x y : D) : QA :=
  match c with
  | .dat (.bool b) => .split b x y
  | _ => .stop
def evQBuiltin (E : Env) (b : Builtin) (ts : List TypeId) (xs : List D) : QA :=
  match b, ts, xs with
  | .len, [t], [x] => (evLen E.P t x).q
  | .max, _, [x, y] => (evMax x y).q
  | .min, _, [x, y] => (evMin x y).q
  | _, _, _ => .stop
def evQFn (Φ : Fns) (f : D) (ds : List D) : QA :=
  match f with
  | .dat (.fn (.func g)) => match Φ g with
    | some p => match qDs ds with
      | some xs => .req (p.pre xs) (.val (retD (p.res xs)))
      | none => .stop
    | none => .stop
  | _ => .stop
def evQConv (E : Env) (st : St) (src dst : TypeId) (x : D) : QA :=
  match kindT E.P dst with
  | .slice _ => (evBytes E src dst x).q
  | _ => (evConv E.P st src dst x).q
def evQ (E : Env) (Φ : Fns) (f : Operand → D) (st : St) : Op → QA
  | .move x => .val (f x)
  | .assign x => .val (f x)
  | .pick c x y => evQPick (f c) (f x) (f y)
  | .build t ps => (evBuildF E t (ps.toList.map fun p => (p.1, f p.2))).q
  | .load t x => .req (posT E.P t = true) (evLoad E st t (f x)).q
  | .nilCheck x => if evNilCheck (f x) then .val (f x) else .stop
  | .binOp op t x y _ => (evEq E op t x y (f x) (f y)).q
  | .unOp op _ x => (evUn op (f x)).q
  | .convert src dst x => evQConv E st src dst (f x)
  | .makeInterface t x => evQIface E t (f x)
  | .makeFunc g xs ys => .val (.fn g (xs.toList.map f) (ys.toList.map f))
  | .slice t x lo hi mx => (evSlice E st t (f x) (lo.map f) (hi.map f) (mx.map f)).q
  | .fieldAddr t x i => (evFieldAddr E t (f x) i).q
  | .field t x i => (evField E t (f x) i).q
  | .indexAddr t x i => (evIndexAddr E st t (f x) (f i)).q
  | .index t x i => (evIndex E t (f x) (f i)).q
  | .extract x i => evQExtract (f x) i
  | .call { callee := .builtin b, args, argTypes } => evQBuiltin E b argTypes.toList (args.toList.map f)
  | .call { callee := .value g, args, .. } => evQFn Φ (f g) (args.toList.map f)
  | _ => .stop
theorem evOs_map (E : Env) (st : St) : ∀ (xs : List Operand), evOs E st xs = xs.map (evO E st)
  | [] => rfl
  | x :: r => by simp only [evOs, List.map_cons, evOs_map E st r]
def St.withT (st : St) (t : Tm) : St := ⟨⟨st.c.n, t, st.c.m⟩, st.s, st.h⟩
theorem map_agree {f g : Operand → D} {xs : List Operand} (h : ∀ x ∈ xs, f x = g x) : xs.map f = xs.map g := List.map_congr_left h
theorem opt_agree {f g : Operand → D} {x : Option Operand} (h : ∀ y ∈ x.toArray, f y = g y) : x.map f = x.map g := by
  cases x with
  | none => rfl
  | some x => exact congrArg some (h x (by simp))
theorem evQ_ok {E : Env} {Φ : Fns} {f : Operand → D} {st : St} {t : Tm} {P : D → Prop} (op : Op) (hf : ∀ x ∈ op.operands, f x = evO E (st.withT t) x) (h : (evQ E Φ f st op).ok P) : (ev E Φ (st.withT t) op).ok (st.withT t) (quietS P (st.withT t)) := by
  cases op with
  | move x =>
    have e := hf x (by simp [Op.operands])
    exact ⟨rfl, by rw [← e]; exact h⟩
  | assign x =>
    have e := hf x (by simp [Op.operands])
    exact ⟨rfl, by rw [← e]; exact h⟩
  | pick c x y =>
    simp only [evQ, evQPick] at h
    rw [hf c (by simp [Op.operands]), hf x (by simp [Op.operands]), hf y (by simp [Op.operands])] at h
    simp only [ev, evPick]
    split at h
    · rename_i b hb
      simp only [hb]
      exact ⟨fun e => ⟨rfl, h.1 e⟩, fun e => ⟨rfl, h.2 e⟩⟩
    · exact h.elim
  | build t' ps =>
    simp only [evQ] at h
    have e : (ps.toList.map fun p => (p.1, f p.2)) = ps.toList.map fun p => (p.1, evO E (st.withT t) p.2) :=
      List.map_congr_left fun p hp => by rw [hf p.2 (by simp [Op.operands]; exact ⟨p.1, by simpa using hp⟩)]
    rw [e, ← evBuild_eq] at h
    exact Res.q_ok h
  | load t' x =>
    simp only [evQ] at h
    rw [hf x (by simp [Op.operands])] at h
    exact ⟨h.1, Res.q_ok h.2⟩
  | nilCheck x =>
    simp only [evQ] at h
    rw [hf x (by simp [Op.operands])] at h
    simp only [ev]
    split at h
    · rename_i hc
      rw [if_pos hc]
      exact ⟨rfl, h⟩
    · exact h.elim
  | binOp op t' x y yt =>
    simp only [evQ] at h
    rw [hf x (by simp [Op.operands]), hf y (by simp [Op.operands])] at h
    exact Res2.q_ok h
  | unOp op t' x =>
    simp only [evQ] at h
    rw [hf x (by simp [Op.operands])] at h
    exact Res2.q_ok h
  | convert src dst x =>
    simp only [evQ, evQConv] at h
    rw [hf x (by simp [Op.operands])] at h
    simp only [ev, evConvert]
    generalize kindT E.P dst = k at h
    cases k with
    | slice e =>
      simp only []
      split
      · rename_i e0
        rw [e0, evBytes_sl] at h
        exact h.elim
      · exact Res.q_ok h
    | _ => exact Res2.q_ok h
  | makeInterface t' x =>
    simp only [evQ, evQIface] at h
    rw [hf x (by simp [Op.operands])] at h
    simp only [ev, evIface]
    generalize kindT E.P t' = k at h
    generalize evO E (st.withT t) x = d at h
    cases k <;> cases d <;> first | exact h.elim | exact ⟨rfl, h⟩
  | makeFunc g xs ys =>
    simp only [evQ] at h
    rw [map_agree (g := evO E (st.withT t)) fun x hx => hf x (by simp [Op.operands]; exact .inl (by simpa using hx)), map_agree (xs := ys.toList) (g := evO E (st.withT t)) fun x hx => hf x (by simp [Op.operands]; exact .inr (by simpa using hx)), ← evOs_map, ← evOs_map] at h
    exact ⟨rfl, h⟩
  | slice t' x lo hi mx =>
    simp only [evQ] at h
    rw [hf x (by simp [Op.operands]), opt_agree (g := evO E (st.withT t)) fun y hy => hf y (by simp [Op.operands] at hy ⊢; simp [hy]),
      opt_agree (x := hi) (g := evO E (st.withT t)) fun y hy => hf y (by simp [Op.operands] at hy ⊢; simp [hy]),
      opt_agree (x := mx) (g := evO E (st.withT t)) fun y hy => hf y (by simp [Op.operands] at hy ⊢; simp [hy])] at h
    exact Res.q_ok h
  | fieldAddr t' x i =>
    simp only [evQ] at h
    rw [hf x (by simp [Op.operands])] at h
    exact Res.q_ok h
  | field t' x i =>
    simp only [evQ] at h
    rw [hf x (by simp [Op.operands])] at h
    exact Res.q_ok h
  | indexAddr t' x i =>
    simp only [evQ] at h
    rw [hf x (by simp [Op.operands]), hf i (by simp [Op.operands])] at h
    exact Res.q_ok h
  | index t' x i =>
    simp only [evQ] at h
    rw [hf x (by simp [Op.operands]), hf i (by simp [Op.operands])] at h
    exact Res.q_ok h
  | extract x i =>
    simp only [evQ, evQExtract] at h
    rw [hf x (by simp [Op.operands])] at h
    simp only [ev, evExtract]
    split at h
    · rename_i cs hcs
      simp only [hcs]
      split at h
      · rename_i d hd
        simp only [hd]
        exact ⟨rfl, h⟩
      · exact h.elim
    · exact h.elim
  | call c =>
    obtain ⟨cal, args, ats⟩ := c
    have ha : args.toList.map f = evOs E (st.withT t) args.toList := by
      rw [evOs_map]
      exact map_agree fun x hx => hf x (by simp [Op.operands, Call.operands]; exact .inr (by simpa using hx))
    cases cal with
    | builtin b =>
      simp only [evQ] at h
      rw [ha] at h
      simp only [ev, evCall]
      generalize evOs E (st.withT t) args.toList = ds at h
      generalize ats.toList = ts at h
      unfold evQBuiltin at h
      unfold evBuiltin
      split at h
      · exact Res2.q_ok h
      · exact Res2.q_ok h
      · exact Res2.q_ok h
      · exact h.elim
    | value g =>
      simp only [evQ] at h
      rw [ha, hf g (by simp [Op.operands, Call.operands])] at h
      simp only [ev, evCall]
      unfold evQFn at h
      split at h
      · rename_i g' hg
        simp only [evFn, hg, evGo]
        split at h
        · rename_i p hp
          split at h
          · rename_i xs hx
            simp only [hp, qDs_frzs _ _ hx]
            exact ⟨h.1, rfl, h.2⟩
          · exact h.elim
        · exact h.elim
      · exact h.elim
    | invoke _ _ => exact h.elim
  | _ => exact h.elim
end Go.Proofs.YtfbodageccednaaDoor.Vm
namespace Go.Proofs.YtfbodageccednaaDoor.Vm
open Go Go.RowKit
/-! ### A region whose order is drawn -/
def wr (ops : Array Oper) (q u : Nat) : Option Nat := (List.range q).find? fun i => gtmp ops i == some u
def hangs (o : Oper) (j : Nat) : Bool := o.after.toList.any fun e => e.on == j && Region.binds .any e
/-- What it hangs on, as bits. -/
def hmask (o : Oper) : Nat := o.after.toList.foldr (fun e m => if Region.binds .any e then m ||| 2 ^ e.on else m) 0
/-- What it hangs on by way of others. -/
def clos (ops : Array Oper) : Nat → Nat → Nat
  | 0, s => s
  | n + 1, s => clos ops n (if s.testBit n then match ops[n]? with | some o => s ||| hmask o | none => s else s)
/-- Its first q operations each write a temporary of their own, read what those write alone that they hang on; the others stand one behind the other, behind all of them. -/
def quietOK (ops : Array Oper) (q : Nat) : Bool :=
  decide (q ≤ ops.size) &&
  ((List.range ops.size).all fun i => match ops[i]? with
    | none => false
    | some o => (o.after.toList.all fun e => !Region.binds .any e || decide (e.on < i)) &&
      if i < q then ((match o.dst with | some t => wr ops q t == some i | none => false) && (match o.guard with | some (j, _) => decide (j < i) | none => true)) && (o.looksAt ops).all fun u => match wr ops q u with | some j => hangs o j | none => true
      else (clos ops i (hmask o)) % 2 ^ i == 2 ^ i - 1)
def qGuard (f g : Prop) (b : Bool) : D → Prop
  | .dat (.bool c) => (c = b → f) ∧ (c = !b → g)
  | .tup [] => g
  | _ => False
def qCheck (E : Env) (Φ : Fns) (ops : Array Oper) (st : St) (tF : Tm) (o : Oper) (t : Nat) : Prop :=
  match o.guard with
  | none => (evQ E Φ (evO E (st.withT tF)) st o.op).ok fun d => look tF t = d
  | some (j, b) => match gtmp ops j with
    | some g => qGuard ((evQ E Φ (evO E (st.withT tF)) st o.op).ok fun d => look tF t = d) (look tF t = .tup []) b (look tF g)
    | none => False
section
variable {Γ : Ctx} {st : St} {a : Act} {as : List Act} {β : Nat → Pl} {w : World} {Φ : Fns} {ρ : Option Nat} {next : Act → World → Prop} {Q : Exit → Act → World → Prop} {ops : Array Oper}
theorem goStep (hΦ : Sound Γ.toEnv Φ) {K : St → Prop} {o : Oper} {l : List Oper} {i : Nat} (ho : ops[i]? = some o) (S : Sim Γ st a as β w) (h : goOps Γ.toEnv Φ ops (o :: l) st K)
    (hnext : ∀ st a β w, Sim Γ st a as β w → goOps Γ.toEnv Φ ops l st K → next a w) : wpOpIn (Fw ρ) 0 Γ.P ops Q i next a w := by
  simp only [wpOpIn, ho]
  have hrun : ∀ (st : St) (S : Sim Γ st a as β w), (ev Γ.toEnv Φ st o.op).ok st ⟨fun d s => dstOK s o.dst ∧ goOps Γ.toEnv Φ ops l (Vm.putO s o.dst d) K, fun s => dstOK s o.dst ∧ goOps Γ.toEnv Φ ops l (Vm.putO s o.dst (.tup [])) K,
      fun g ds => VCcall Γ.toEnv g ds st fun d s => dstOK s o.dst ∧ goOps Γ.toEnv Φ ops l (Vm.putO s o.dst d) K, fun r ds => VCyield Γ.toEnv r ds st fun d s => dstOK s o.dst ∧ goOps Γ.toEnv Φ ops l (Vm.putO s o.dst d) K⟩ →
      o.wpIn (Fw ρ) 0 Γ.P a w next Q := by
    intro st S h
    refine ev_ok S hΦ o h ?_ ?_ ?_ ?_
    · rintro v d st' β' w' S' hv ⟨h1, h2⟩
      exact hnext _ _ β' w' (S'.putO h1 hv) h2
    · rintro st' β' w' S' ⟨h1, h2⟩
      exact hnext _ _ β' w' (S'.putO h1 undef_ok) h2
    · intro g ds args hargs hc
      refine (hc Γ a as β w args rfl S hargs).mono fun e w'' he => ?_
      obtain ⟨v, d, st', β', rfl, S', hv, h1, h2⟩ := he
      exact ⟨v, rfl, hnext _ _ β' w'' (S'.putO h1 hv) h2⟩
    · intro r ds args b c sz hb hargs hc
      obtain ⟨f, tmps, assign, body, hr, hround⟩ := hc Γ a as β w args b c sz rfl S hb hargs
      rw [hr]
      refine ⟨fun e => by simp [Fw, Fence.wide] at e, RoundIn.mono (F := Fw ρ) hround fun e w'' he => ?_⟩
      obtain ⟨v, d, st', β', rfl, S', hv, h1, h2⟩ := he
      exact hnext _ _ β' w'' (S'.putO h1 hv) h2
  have hskip : ∀ (st : St) (S : Sim Γ st a as β w), dstOK st o.dst ∧ goOps Γ.toEnv Φ ops l (Vm.putO st o.dst (.tup [])) K → (∀ f, o.about Γ.P w a.eval = some f → (Fw ρ).fn f) ∧ next (a.put o.dst undef) w := by
    rintro st S ⟨h1, h2⟩
    exact ⟨fun _ _ => trivial, hnext _ _ β w (S.putO h1 undef_ok) h2⟩
  unfold goOps at h
  cases hg : o.guard with
  | none =>
    rw [hg] at h
    rw [if_pos (by simp [Region.wanted, hg])]
    exact hrun st S h
  | some jb =>
    obtain ⟨j, b⟩ := jb
    rw [hg] at h
    simp only [guarded] at h
    split at h
    · exact h.elim
    · rename_i t ht
      have hget := S.get t
      have hy : yielded ops a.tmps j = match a.tmps[t]? with | some (.bool b) => some b | _ => none := by
        unfold yielded
        rw [show (ops[j]?).bind (·.dst) = some t from ht]
        rfl
      split at h
      · rename_i c hc
        rw [hc] at hget
        simp only [RVD, RV] at hget
        have hy' : yielded ops a.tmps j = some c := by rw [hy, getD_bool hget]
        by_cases hcb : c = b
        · rw [if_pos (by simp [Region.wanted, hg, hy', hcb])]
          refine hrun _ (S.know ?_) (h.1 hcb)
          rw [hget, hcb]; simp only [RVD, RV]
        · rw [if_neg (by simp [Region.wanted, hg, hy', hcb])]
          have hcb' : c = !b := by cases c <;> cases b <;> simp_all
          refine hskip _ (S.know ?_) (h.2 hcb')
          rw [hget, hcb']; simp only [RVD, RV]
      · rename_i hc
        rw [hc] at hget
        simp only [RVD] at hget
        obtain ⟨vs, hv, hvs⟩ := hget
        simp only [RVDs] at hvs
        have hv' : a.tmps.getD t undef = undef := by
          rw [hv]
          have : vs = #[] := by apply Array.ext'; simpa using hvs
          rw [this]; rfl
        have hy' : yielded ops a.tmps j = none := by
          rw [hy]
          split
          · rename_i b' hb'
            exact absurd hb' (getD_undef hv' b')
          · rfl
        rw [if_neg (by simp [Region.wanted, hg, hy'])]
        exact hskip st S h
      · exact h.elim
theorem qStep (hΦ : Sound Γ.toEnv Φ) {o : Oper} {i t : Nat} {t' tF : Tm} (ho : ops[i]? = some o) (hd : o.dst = some t) (htn : t < st.c.n) (S : Sim Γ (st.withT t') a as β w) (hl : ∀ u ∈ o.looksAt ops, look t' u = look tF u)
    (h : qCheck Γ.toEnv Φ ops st tF o t) (hnext : ∀ a β w, Sim Γ ((st.withT t').put t (look tF t)) a as β w → next a w) : wpOpIn (Fw ρ) 0 Γ.P ops Q i next a w := by
  simp only [wpOpIn, ho]
  have hf : ∀ x ∈ o.op.operands, evO Γ.toEnv (st.withT tF) x = evO Γ.toEnv (st.withT t') x := by
    intro x hx
    cases x with
    | tmp u =>
      have : u ∈ o.looksAt ops := by
        unfold Oper.looksAt
        refine List.mem_append_left _ (List.mem_filterMap.2 ⟨.tmp u, by simpa using hx, rfl⟩)
      exact (hl u this).symm
    | _ => rfl
  have hrun : ((evQ Γ.toEnv Φ (evO Γ.toEnv (st.withT tF)) st o.op).ok fun d => look tF t = d) → o.wpIn (Fw ρ) 0 Γ.P a w next Q := by
    intro h
    refine ev_ok S hΦ o (evQ_ok o.op hf h) ?_ ?_ ?_ ?_
    · rintro v d st' β' w' S' hv ⟨rfl, h2⟩
      rw [hd]
      exact hnext _ β' w' (h2 ▸ S'.put htn hv)
    · rintro st' β' w' S' h; exact h.elim
    · intro g ds args _ h; exact h.elim
    · intro l ds args b c sz _ _ h; exact h.elim
  have hskip : look tF t = .tup [] → (∀ f, o.about Γ.P w a.eval = some f → (Fw ρ).fn f) ∧ next (a.put o.dst undef) w := by
    intro h
    refine ⟨fun _ _ => trivial, ?_⟩
    rw [hd]
    exact hnext _ β w (h ▸ S.put htn undef_ok)
  unfold qCheck at h
  cases hg : o.guard with
  | none =>
    rw [hg] at h
    rw [if_pos (by simp [Region.wanted, hg])]
    exact hrun h
  | some jb =>
    obtain ⟨j, b⟩ := jb
    rw [hg] at h
    simp only [] at h
    split at h
    · rename_i g hgt
      have hgl : look t' g = look tF g := by
        refine hl g ?_
        unfold Oper.looksAt
        refine List.mem_append_right _ ?_
        rw [hg]
        simp only []
        rw [show (ops[j]?).bind (·.dst) = some g from hgt]
        simp
      have hget := S.get g
      have hy : yielded ops a.tmps j = match a.tmps[g]? with | some (.bool b) => some b | _ => none := by
        unfold yielded
        rw [show (ops[j]?).bind (·.dst) = some g from hgt]
        rfl
      rw [show look (st.withT t').c.t g = look tF g from hgl] at hget
      unfold qGuard at h
      split at h
      · rename_i c hc
        rw [hc] at hget
        simp only [RVD, RV] at hget
        have hy' : yielded ops a.tmps j = some c := by rw [hy, getD_bool hget]
        by_cases hcb : c = b
        · rw [if_pos (by simp [Region.wanted, hg, hy', hcb])]
          exact hrun (h.1 hcb)
        · rw [if_neg (by simp [Region.wanted, hg, hy', hcb])]
          have hcb' : c = !b := by cases c <;> cases b <;> simp_all
          exact hskip (h.2 hcb')
      · rename_i hc
        rw [hc] at hget
        simp only [RVD] at hget
        obtain ⟨vs, hv, hvs⟩ := hget
        simp only [RVDs] at hvs
        have hv' : a.tmps.getD g undef = undef := by
          rw [hv]
          have : vs = #[] := by apply Array.ext'; simpa using hvs
          rw [this]; rfl
        have hy' : yielded ops a.tmps j = none := by
          rw [hy]
          split
          · rename_i b' hb'
            exact absurd hb' (getD_undef hv' b')
          · rfl
        rw [if_neg (by simp [Region.wanted, hg, hy'])]
        exact hskip h
      · exact h.elim
    · exact h.elim
end
end Go.Proofs.YtfbodageccednaaDoor.Vm
namespace Go.Proofs.YtfbodageccednaaDoor.Vm
open Go Go.RowKit
/-! ### What the static look tells -/
theorem hangs_ok {o : Oper} {j : Nat} (h : hangs o j = true) : ∃ e ∈ o.after, e.on = j ∧ Region.binds .any e = true := by
  unfold hangs at h
  obtain ⟨e, he, h⟩ := List.any_eq_true.1 h
  simp only [Bool.and_eq_true, beq_iff_eq] at h
  exact ⟨e, by simpa using he, h.1, h.2⟩
theorem quietOK_size {ops : Array Oper} {q : Nat} (h : quietOK ops q = true) : q ≤ ops.size := by
  simp only [quietOK, Bool.and_eq_true, decide_eq_true_eq] at h
  exact h.1
def Closed (ops : Array Oper) (L : Nat → Prop) : Prop := ∀ k o, ops[k]? = some o → L k → ∀ e ∈ o.after, Region.binds .any e = true → L e.on
theorem hmask_bit {o : Oper} {j : Nat} (h : (hmask o).testBit j = true) : ∃ e ∈ o.after, e.on = j ∧ Region.binds .any e = true := by
  have aux : ∀ l : List Edge, (l.foldr (fun e m => if Region.binds .any e then m ||| 2 ^ e.on else m) 0).testBit j = true → ∃ e ∈ l, e.on = j ∧ Region.binds .any e = true := by
    intro l
    induction l with
    | nil => intro h; simp at h
    | cons e l ih =>
      intro h
      rw [List.foldr_cons] at h
      split at h
      · rename_i hb
        rw [Nat.testBit_or, Bool.or_eq_true, Nat.testBit_two_pow] at h
        rcases h with h | h
        · obtain ⟨e', h1, h2⟩ := ih h
          exact ⟨e', by simp [h1], h2⟩
        · exact ⟨e, by simp, of_decide_eq_true h, hb⟩
      · obtain ⟨e', h1, h2⟩ := ih h
        exact ⟨e', by simp [h1], h2⟩
  obtain ⟨e, h1, h2⟩ := aux _ h
  exact ⟨e, by simpa using h1, h2⟩
theorem clos_in {ops : Array Oper} {L : Nat → Prop} (hL : Closed ops L) : ∀ (n s : Nat), (∀ j, s.testBit j = true → L j) → ∀ j, (clos ops n s).testBit j = true → L j
  | 0, s, h, j, hj => h j hj
  | n + 1, s, h, j, hj => by
    rw [clos] at hj
    refine clos_in hL n _ ?_ j hj
    intro k hk
    split at hk
    · rename_i hn
      split at hk
      · rename_i o ho
        rw [Nat.testBit_or, Bool.or_eq_true] at hk
        rcases hk with hk | hk
        · exact h k hk
        · obtain ⟨e, he, rfl, hb⟩ := hmask_bit hk
          exact hL n o ho (h n hn) e he hb
      · exact h k hk
    · exact h k hk
theorem quietOK_at {ops : Array Oper} {q i : Nat} {o : Oper} (h : quietOK ops q = true) (ho : ops[i]? = some o) : (∀ e ∈ o.after, Region.binds .any e = true → e.on < i) ∧
    (i < q → ((∃ t, o.dst = some t ∧ wr ops q t = some i) ∧ ∀ j b, o.guard = some (j, b) → j < i) ∧ ∀ u ∈ o.looksAt ops, ∀ j, wr ops q u = some j → hangs o j = true) ∧ (q ≤ i → ∀ L, Closed ops L → (∀ e ∈ o.after, Region.binds .any e = true → L e.on) → ∀ j, j < i → L j) := by
  have hi : i < ops.size := (Array.getElem?_eq_some_iff.1 ho).1
  simp only [quietOK, Bool.and_eq_true] at h
  have h := List.all_eq_true.1 h.2 i (List.mem_range.2 hi)
  rw [ho] at h
  simp only [Bool.and_eq_true] at h
  obtain ⟨h1, h2⟩ := h
  refine ⟨fun e he hb => ?_, fun hq => ?_, fun hq L hL hLo j hj => ?_⟩
  · have := List.all_eq_true.1 h1 e (by simpa using he)
    simpa [hb] using this
  · rw [if_pos hq] at h2
    simp only [Bool.and_eq_true] at h2
    obtain ⟨⟨h3, h5⟩, h4⟩ := h2
    refine ⟨⟨?_, fun j b hg => ?_⟩, fun u hu j hj => ?_⟩
    · split at h3
      · rename_i t ht
        exact ⟨t, ht, by simpa using h3⟩
      · cases h3
    · rw [hg] at h5
      simpa using h5
    · have := List.all_eq_true.1 h4 u hu
      rw [hj] at this
      exact this
  · rw [if_neg (by omega)] at h2
    have h2 := eq_of_beq h2
    refine clos_in hL i (hmask o) (fun k hk => ?_) j ?_
    · obtain ⟨e, he, rfl, hb⟩ := hmask_bit hk
      exact hLo e he hb
    · have h3 := Nat.testBit_mod_two_pow (clos ops i (hmask o)) i j
      rw [h2, Nat.testBit_two_pow_sub_one, decide_eq_true hj, Bool.true_and] at h3
      exact h3.symm
theorem wr_dst {ops : Array Oper} {q u i : Nat} (h : wr ops q u = some i) : i < q ∧ gtmp ops i = some u := by
  unfold wr at h
  have h1 := List.find?_some h
  have h2 := List.mem_of_find?_eq_some h
  exact ⟨List.mem_range.1 h2, by simpa using h1⟩
/-! counting -/
def unl (listed : Array Bool) : Nat → Nat
  | 0 => 0
  | k + 1 => unl listed k + if listed.getD k true then 0 else 1
theorem unl_le (listed : Array Bool) : ∀ k, unl listed k ≤ k
  | 0 => Nat.le_refl _
  | k + 1 => by
    have := unl_le listed k
    simp only [unl]; split <;> omega
theorem getD_set_same {listed : Array Bool} {j : Nat} (h : j < listed.size) (d : Bool) : (listed.setIfInBounds j true).getD j d = true := by
  simp [Array.getD_eq_getD_getElem?, h]
theorem unl_set_ge {listed : Array Bool} {j : Nat} : ∀ {k : Nat}, k ≤ j → unl (listed.setIfInBounds j true) k = unl listed k
  | 0, _ => rfl
  | k + 1, h => by simp only [unl]; rw [unl_set_ge (by omega), getD_set_ne true (by omega)]
theorem unl_set {listed : Array Bool} {j : Nat} (hj : j < listed.size) (h : listed.getD j true = false) : ∀ {k : Nat}, j < k → unl (listed.setIfInBounds j true) k + 1 = unl listed k
  | 0, hk => by omega
  | k + 1, hk => by
    simp only [unl]
    by_cases e : j = k
    · subst e
      rw [unl_set_ge (Nat.le_refl _), getD_set_same hj, h]
      simp
    · rw [getD_set_ne true e, ← unl_set hj h (show j < k by omega)]
      omega
theorem unl_exact {listed : Array Bool} {m : Nat} : ∀ {k : Nat}, m ≤ k → (∀ i, i < k → listed.getD i true = decide (i < m)) → unl listed k + m = k
  | 0, h, _ => by simp only [unl]; omega
  | k + 1, h, hl => by
    simp only [unl]
    rw [hl k (by omega)]
    by_cases e : m = k + 1
    · subst e
      have : ∀ j, j ≤ k + 1 → unl listed j = 0 := by
        intro j
        induction j with
        | zero => intro _; rfl
        | succ j ih => intro hj; simp only [unl]; rw [ih (by omega), hl j (by omega)]; simp; omega
      rw [this k (by omega)]; simp
    · have := unl_exact (k := k) (by omega) fun i hi => hl i (by omega)
      have : ¬ k < m := by omega
      simp [this]; omega
theorem unl_pos {listed : Array Bool} {j : Nat} (h : listed.getD j true = false) : ∀ {k : Nat}, j < k → 0 < unl listed k
  | 0, hk => by omega
  | k + 1, hk => by
    simp only [unl]
    by_cases e : j = k
    · subst e; rw [h]; simp
    · have := unl_pos h (show j < k by omega); omega
section
variable {Γ : Ctx} {st : St} {as : List Act} {Φ : Fns} {ρ : Option Nat} {Q : Exit → Act → World → Prop} {ops : Array Oper} {q : Nat} {K : St → Prop}
theorem getD_tf {listed : Array Bool} {j : Nat} (h : j < listed.size) (d d' : Bool) : listed.getD j d = listed.getD j d' := by
  simp [Array.getD_eq_getD_getElem?, h]
theorem phase2 (hΦ : Sound Γ.toEnv Φ) (hs : quietOK ops q = true) (hQ : ∀ st a β w, Sim Γ st a as β w → K st → Q .normal a w) :
    ∀ (fuel m : Nat) (listed : Array Bool) (st : St) (a : Act) (β : Nat → Pl) (w : World), listed.size = ops.size → q ≤ m → m ≤ ops.size → ops.size ≤ m + fuel → (∀ i, i < ops.size → listed.getD i true = decide (i < m)) →
      Sim Γ st a as β w → goOps Γ.toEnv Φ ops (ops.toList.drop m) st K → wpAnyIn (Fw ρ) 0 Γ.P .any ops Q fuel listed a w := by
  intro fuel
  induction fuel with
  | zero =>
    intro m listed st a β w hsz hqm hm hf hl S h
    have hmn : m = ops.size := by omega
    have hnil : Region.ready .any ops listed = [] := by
      refine List.eq_nil_iff_forall_not_mem.2 fun j hj => ?_
      obtain ⟨h1, o, ho, _⟩ := mem_ready.1 hj
      have hj := (Array.getElem?_eq_some_iff.1 ho).1
      rw [hl j hj] at h1
      simp at h1; omega
    refine ⟨hnil, ?_⟩
    rw [List.drop_of_length_le (by simp; omega)] at h
    exact hQ st a β w S h
  | succ fuel ih =>
    intro m listed st a β w hsz hqm hm hf hl S h
    refine ⟨fun hnil => ?_, fun j hj => ?_⟩
    · by_cases hmn : m = ops.size
      · rw [List.drop_of_length_le (by simp; omega)] at h
        exact hQ st a β w S h
      · exfalso
        have hlt : m < ops.size := by omega
        have ho := Array.getElem?_eq_getElem hlt
        have : m ∈ Region.ready .any ops listed := by
          refine mem_ready.2 ⟨by rw [hl m hlt]; simp, _, ho, fun e he hb => ?_⟩
          have := (quietOK_at hs ho).1 e he hb
          rw [getD_tf (by omega) false true, hl e.on (by omega)]
          simpa using this
        rw [hnil] at this
        cases this
    · obtain ⟨h1, o, ho, h2⟩ := mem_ready.1 hj
      have hjn := (Array.getElem?_eq_some_iff.1 ho).1
      rw [hl j hjn] at h1
      simp only [decide_eq_false_iff_not, Nat.not_lt] at h1
      have hjm : j = m := by
        rcases Nat.lt_or_ge m j with hlt | hge
        · exfalso
          have := (quietOK_at hs ho).2.2 (by omega) (fun k => k < m) (fun k o' hk hlk e he hb => Nat.lt_trans ((quietOK_at hs hk).1 e he hb) hlk) (fun e he hb => by
            have h4 := h2 e he hb
            have h5 := (quietOK_at hs ho).1 e he hb
            rw [getD_tf (by omega) false true, hl e.on (by omega)] at h4
            simpa using h4) m hlt
          omega
        · omega
      subst hjm
      have hdrop : ops.toList.drop j = o :: ops.toList.drop (j + 1) := by
        rw [List.drop_eq_getElem_cons (by simpa using hjn)]
        congr 1
        have := (Array.getElem?_eq_some_iff.1 ho).2
        simpa using this
      rw [hdrop] at h
      refine goStep hΦ ho S h fun st' a' β' w' S' h' => ih (j + 1) _ st' a' β' w' (by simp [hsz]) (by omega) (by omega) (by omega) (fun i hi => ?_) S' h'
      by_cases e : j = i
      · subst e; rw [getD_set_same (by omega)]; simp
      · rw [getD_set_ne true e, hl i hi]
        have : (i < j) ↔ (i < j + 1) := by omega
        simp [this]
def lookV (ops : Array Oper) (q : Nat) (t0 tF : Tm) (listed : Array Bool) (u : Nat) : D :=
  match wr ops q u with
  | some i => if listed.getD i false then look tF u else look t0 u
  | none => look t0 u
theorem phase1 (hΦ : Sound Γ.toEnv Φ) (hs : quietOK ops q = true) (hQ : ∀ st a β w, Sim Γ st a as β w → K st → Q .normal a w) {tF : Tm} (hF : ∀ u, wr ops q u = none → look tF u = look st.c.t u)
    (hc : ∀ i o t, i < q → ops[i]? = some o → o.dst = some t → t < st.c.n ∧ qCheck Γ.toEnv Φ ops st tF o t) (hK : goOps Γ.toEnv Φ ops (ops.toList.drop q) (st.withT tF) K) :
    ∀ (fuel : Nat) (listed : Array Bool) (t' : Tm) (a : Act) (β : Nat → Pl) (w : World), listed.size = ops.size → unl listed ops.size ≤ fuel → (∀ i, q ≤ i → i < ops.size → listed.getD i true = false) → Closed ops (fun k => listed.getD k false = true) →
      Sim Γ (st.withT t') a as β w → (∀ u, look t' u = lookV ops q st.c.t tF listed u) → wpAnyIn (Fw ρ) 0 Γ.P .any ops Q fuel listed a w := by
  have hqn := quietOK_size hs
  have done : ∀ (fuel : Nat) (listed : Array Bool) (t' : Tm) (a : Act) (β : Nat → Pl) (w : World), listed.size = ops.size → unl listed ops.size ≤ fuel → (∀ i, q ≤ i → i < ops.size → listed.getD i true = false) →
      Sim Γ (st.withT t') a as β w → (∀ u, look t' u = lookV ops q st.c.t tF listed u) → (∀ i, i < q → listed.getD i true = true) → wpAnyIn (Fw ρ) 0 Γ.P .any ops Q fuel listed a w := by
    intro fuel listed t' a β w hsz hf hl S hlook hall
    have hex : ∀ i, i < ops.size → listed.getD i true = decide (i < q) := by
      intro i hi
      by_cases h : i < q
      · rw [hall i h]; simp [h]
      · rw [hl i (by omega) hi]; simp [h]
    obtain ⟨β', S'⟩ := (Ent.temps (t' := tF) fun u => by
      left
      rw [hlook u]
      unfold lookV
      split
      · rename_i i hi
        have := (wr_dst hi).1
        rw [if_pos (by rw [getD_tf (by omega) false true]; exact hall i this)]
      · rename_i hi
        exact hF u hi) Γ a as β w S
    have hcount := unl_exact hqn hex
    exact phase2 hΦ hs hQ fuel q listed _ a β' w hsz (Nat.le_refl _) hqn (by omega) hex S' hK
  intro fuel
  induction fuel with
  | zero =>
    intro listed t' a β w hsz hf hl hcl S hlook
    refine done 0 listed t' a β w hsz hf hl S hlook fun i hi => ?_
    cases h : listed.getD i true with
    | true => rfl
    | false => have := unl_pos h (show i < ops.size by omega); omega
  | succ fuel ih =>
    intro listed t' a β w hsz hf hl hcl S hlook
    by_cases hall : ∀ i, i < q → listed.getD i true = true
    · exact done (fuel + 1) listed t' a β w hsz hf hl S hlook hall
    · have hsome : ∃ i, i < q ∧ listed.getD i true = false := by
        refine Classical.byContradiction fun hno => hall fun i hi => ?_
        cases h : listed.getD i true with
        | true => rfl
        | false => exact absurd ⟨i, hi, h⟩ hno
      refine ⟨fun hnil => ?_, fun j hj => ?_⟩
      · exfalso
        obtain ⟨i, ⟨hi, hu⟩, hmin⟩ := exists_min hsome
        have ho := Array.getElem?_eq_getElem (show i < ops.size by omega)
        have : i ∈ Region.ready .any ops listed := by
          refine mem_ready.2 ⟨hu, _, ho, fun e he hb => ?_⟩
          have hlt := (quietOK_at hs ho).1 e he hb
          rw [getD_tf (by omega) false true]
          cases h : listed.getD e.on true with
          | true => rfl
          | false => have := hmin e.on ⟨by omega, h⟩; omega
        rw [hnil] at this
        cases this
      · obtain ⟨h1, o, ho, h2⟩ := mem_ready.1 hj
        have hjn := (Array.getElem?_eq_some_iff.1 ho).1
        have hjq : j < q := by
          rcases Nat.lt_or_ge j q with h | h
          · exact h
          · exfalso
            obtain ⟨i, hi, hu⟩ := hsome
            have := (quietOK_at hs ho).2.2 h _ hcl h2 i (by omega)
            rw [getD_tf (by omega) false true, hu] at this
            cases this
        obtain ⟨⟨⟨t, hd, hw⟩, _⟩, hlooks⟩ := (quietOK_at hs ho).2.1 hjq
        obtain ⟨htn, hck⟩ := hc j o t hjq ho hd
        refine qStep hΦ ho hd htn S (fun u hu => ?_) hck fun a' β' w' S' => ?_
        · rw [hlook u]
          unfold lookV
          split
          · rename_i i hi
            obtain ⟨e, he, e1, e2⟩ := hangs_ok (hlooks u hu i hi)
            rw [if_pos (by rw [← e1]; exact h2 e he e2)]
          · rename_i hi
            exact (hF u hi).symm
        · refine ih (listed.setIfInBounds j true) ((t, look tF t) :: t') a' β' w' (by simp [hsz]) ?_ (fun i hi hin => by rw [getD_set_ne true (by omega)]; exact hl i hi hin) ?_ S' fun u => ?_
          · have := unl_set (by omega) h1 hjn
            omega
          · intro k o' hk hlk e he hb
            have mono : ∀ i, listed.getD i false = true → (listed.setIfInBounds j true).getD i false = true := by
              intro i hi
              by_cases eij : j = i
              · subst eij; exact getD_set_same (by omega) false
              · rw [getD_set_ne false eij]; exact hi
            by_cases ejk : j = k
            · subst ejk
              rw [ho] at hk
              cases hk
              exact mono _ (h2 e he hb)
            · rw [getD_set_ne false ejk] at hlk
              exact mono _ (hcl k o' hk hlk e he hb)
          · simp only [look]
            by_cases e : t = u
            · subst e
              rw [if_pos rfl]
              unfold lookV
              rw [hw]
              simp only []
              rw [if_pos (getD_set_same (by omega) false)]
            · rw [if_neg e, hlook u]
              unfold lookV
              split
              · rename_i i hi
                have hne : j ≠ i := by
                  rintro rfl
                  have := (wr_dst hi).2
                  simp only [gtmp, ho, Option.bind_some, hd, Option.some.injEq] at this
                  exact e this
                rw [getD_set_ne false hne]
              · rfl
end
end Go.Proofs.YtfbodageccednaaDoor.Vm
namespace Go.Proofs.YtfbodageccednaaDoor.Vm
open Go Go.RowKit
def QA.run (f : D → Prop) : QA → Prop
  | .val d => f d
  | .req p r => p ∧ r.run f
  | .all _ _ => False
  | .split c x y => (c = true → f x) ∧ (c = false → f y)
  | .stop => False
theorem QA.run_some {f : D → Prop} : ∀ {r : QA}, r.run f → ∃ d, f d
  | .val d, h => ⟨d, h⟩
  | .req p r, h => QA.run_some (r := r) h.2
  | .all _ _, h => h.elim
  | .split c x y, h => by
    cases c
    · exact ⟨y, h.2 rfl⟩
    · exact ⟨x, h.1 rfl⟩
  | .stop, h => h.elim
def runQ (E : Env) (Φ : Fns) (ops : Array Oper) : List Oper → St → (St → Prop) → Prop
  | [], s, K => K s
  | o :: l, s, K =>
    match o.dst with
    | none => False
    | some t => match o.guard with
      | none => (evQ E Φ (evO E s) s o.op).run fun d => runQ E Φ ops l (s.put t d) K
      | some (j, b) => match gtmp ops j with
        | none => False
        | some g => match look s.c.t g with
          | .dat (.bool c) => (c = b → (evQ E Φ (evO E (s.put g (.dat (.bool b)))) s o.op).run fun d => runQ E Φ ops l ((s.put g (.dat (.bool b))).put t d) K) ∧ (c = !b → runQ E Φ ops l ((s.put g (.dat (.bool !b))).put t (.tup [])) K)
          | .tup [] => runQ E Φ ops l (s.put t (.tup [])) K
          | _ => False
theorem runQ_some {E : Env} {Φ : Fns} {ops : Array Oper} {K : St → Prop} {p : Nat → Prop} (hp : ∀ j t, gtmp ops j = some t → p j → p t → True) : ∀ (l : List Oper) (s : St), runQ E Φ ops l s K →
    ∃ tw : Tm, K (s.withT (tw ++ s.c.t)) ∧ ∀ x ∈ tw, ∃ o ∈ l, o.dst = some x.1 ∨ ∃ j b, o.guard = some (j, b) ∧ gtmp ops j = some x.1
  | [], s, h => ⟨[], h, by simp⟩
  | o :: l, s, h => by
    have fin : ∀ (t : Nat) (d : D) (s : St), (o.dst = some t ∨ ∃ j b, o.guard = some (j, b) ∧ gtmp ops j = some t) → (∃ tw : Tm, K ((s.put t d).withT (tw ++ (s.put t d).c.t)) ∧ ∀ x ∈ tw, ∃ o' ∈ o :: l, o'.dst = some x.1 ∨ ∃ j b, o'.guard = some (j, b) ∧ gtmp ops j = some x.1) →
        ∃ tw : Tm, K (s.withT (tw ++ s.c.t)) ∧ ∀ x ∈ tw, ∃ o' ∈ o :: l, o'.dst = some x.1 ∨ ∃ j b, o'.guard = some (j, b) ∧ gtmp ops j = some x.1 := by
      rintro t d s ht ⟨tw, h1, h2⟩
      refine ⟨tw ++ [(t, d)], ?_, fun x hx => ?_⟩
      · have e : (tw ++ [(t, d)]) ++ s.c.t = tw ++ (s.put t d).c.t := by simp [St.put, Fr.put]
        rw [e]; exact h1
      · rcases List.mem_append.1 hx with hx | hx
        · exact h2 x hx
        · simp at hx; subst hx
          exact ⟨o, by simp, ht⟩
    have ih : ∀ s, runQ E Φ ops l s K → ∃ tw : Tm, K (s.withT (tw ++ s.c.t)) ∧ ∀ x ∈ tw, ∃ o' ∈ o :: l, o'.dst = some x.1 ∨ ∃ j b, o'.guard = some (j, b) ∧ gtmp ops j = some x.1 := by
      intro s hs
      obtain ⟨tw, h1, h2⟩ := runQ_some hp l s hs
      exact ⟨tw, h1, fun x hx => let ⟨o', a, b⟩ := h2 x hx; ⟨o', by simp [a], b⟩⟩
    unfold runQ at h
    split at h
    · exact h.elim
    · rename_i t ht
      split at h
      · obtain ⟨d, hd⟩ := QA.run_some h
        exact fin t d s (.inl ht) (ih _ hd)
      · rename_i j b hg
        split at h
        · exact h.elim
        · rename_i g hgt
          have hgd : o.dst = some g ∨ ∃ j b, o.guard = some (j, b) ∧ gtmp ops j = some g := .inr ⟨j, b, hg, hgt⟩
          split at h
          · rename_i c hc
            by_cases e : c = b
            · obtain ⟨d, hd⟩ := QA.run_some (h.1 e)
              exact fin g _ s hgd (fin t d _ (.inl ht) (ih _ hd))
            · exact fin g _ s hgd (fin t _ _ (.inl ht) (ih _ (h.2 (by cases c <;> cases b <;> simp_all))))
          · exact fin t _ s (.inl ht) (ih _ h)
          · exact h.elim
/-! the same, of what is stripped -/
def runL (E : Env) (Φ : Fns) : List SO → St → (St → Prop) → Prop
  | [], s, K => K s
  | o :: l, s, K =>
    match o.dst with
    | none => False
    | some t => match o.g with
      | none => (evQ E Φ (evO E s) s o.op).run fun d => runL E Φ l (s.put t d) K
      | some (none, b) => False
      | some (some g, b) => match look s.c.t g with
          | .dat (.bool c) => (c = b → (evQ E Φ (evO E (s.put g (.dat (.bool b)))) s o.op).run fun d => runL E Φ l ((s.put g (.dat (.bool b))).put t d) K) ∧ (c = !b → runL E Φ l ((s.put g (.dat (.bool !b))).put t (.tup [])) K)
          | .tup [] => runL E Φ l (s.put t (.tup [])) K
          | _ => False
theorem runL_ok {E : Env} {Φ : Fns} {ops : Array Oper} {K : St → Prop} : ∀ (l : List Oper) (s : St), runL E Φ (l.map (strip ops)) s K = runQ E Φ ops l s K
  | [], s => rfl
  | o :: l, s => by
    have ih := fun s => runL_ok (E := E) (Φ := Φ) (ops := ops) (K := K) l s
    simp only [List.map_cons]
    unfold runL runQ
    obtain ⟨dst, op, ty, pos, after, g⟩ := o
    cases dst with
    | none => rfl
    | some t =>
      cases g with
      | none => simp only [strip, stripG, ih]
      | some jb =>
        obtain ⟨j, b⟩ := jb
        cases h : gtmp ops j with
        | none => simp only [strip, stripG, h]
        | some g =>
          simp only [strip, stripG, h, ih]
def qOne (E : Env) (Φ : Fns) (st : St) (tF : Tm) (op : Op) (t : Nat) : Option (Option Nat × Bool) → Prop
  | none => (evQ E Φ (evO E (st.withT tF)) st op).ok fun d => look tF t = d
  | some (none, b) => False
  | some (some g, b) => qGuard ((evQ E Φ (evO E (st.withT tF)) st op).ok fun d => look tF t = d) (look tF t = .tup []) b (look tF g)
def qAllL (E : Env) (Φ : Fns) (st : St) (tF : Tm) : List SO → Prop
  | [] => True
  | o :: l => (match o.dst with | some t => t < st.c.n ∧ qOne E Φ st tF o.op t o.g | none => False) ∧ qAllL E Φ st tF l
/-! its rows -/
section
variable {E : Env} {Φ : Fns} {l : List SO} {s : St} {K : St → Prop} {t : Nat}
def runA (E : Env) (Φ : Fns) (t : Nat) (l : List SO) (s : St) (K : St → Prop) (r : QA) : Prop := r.run fun d => runL E Φ l (s.put t d) K
def runB (E : Env) (Φ : Fns) (t : Nat) (op : Op) (l : List SO) (s : St) (K : St → Prop) (g : Nat) (b : Bool) (d : D) : Prop :=
  match d with
  | .dat (.bool c) => (c = b → runA E Φ t l (s.put g (.dat (.bool b))) K (evQ E Φ (evO E (s.put g (.dat (.bool b)))) s op)) ∧ (c = !b → runL E Φ l ((s.put g (.dat (.bool !b))).put t (.tup [])) K)
  | .tup [] => runL E Φ l (s.put t (.tup [])) K
  | _ => False
theorem runL_nil : runL E Φ [] s K = K s := rfl
theorem runL_cons {op : Op} : runL E Φ (⟨some t, op, none⟩ :: l) s K = runA E Φ t l s K (evQ E Φ (evO E s) s op) := rfl
theorem runL_guard {op : Op} {g : Nat} {b : Bool} : runL E Φ (⟨some t, op, some (some g, b)⟩ :: l) s K = runB E Φ t op l s K g b (look s.c.t g) := by
  unfold runL
  simp only [runB]
  cases look s.c.t g with
  | dat d => cases d <;> rfl
  | tup cs => cases cs <;> rfl
  | _ => rfl
theorem runA_val {d : D} : runA E Φ t l s K (.val d) = runL E Φ l (s.put t d) K := rfl
theorem runA_req {p : Prop} {r : QA} : runA E Φ t l s K (.req p r) = (p ∧ runA E Φ t l s K r) := rfl
theorem runA_split {c : Bool} {x y : D} (h1 : c = true → runA E Φ t l s K (.val x)) (h2 : c = false → runA E Φ t l s K (.val y)) : runA E Φ t l s K (.split c x y) := ⟨h1, h2⟩
theorem runA_splitT {x y : D} : runA E Φ t l s K (.split true x y) = runL E Φ l (s.put t x) K := by
  refine propext ⟨fun h => h.1 rfl, fun h => ⟨fun _ => h, fun e => by cases e⟩⟩
theorem runA_splitF {x y : D} : runA E Φ t l s K (.split false x y) = runL E Φ l (s.put t y) K := by
  refine propext ⟨fun h => h.2 rfl, fun h => ⟨(fun e => by cases e), fun _ => h⟩⟩
theorem runA_stop : runA E Φ t l s K .stop = False := rfl
theorem runB_split {op : Op} {g : Nat} {b c : Bool} (h1 : c = true → runB E Φ t op l s K g b (.dat (.bool true))) (h2 : c = false → runB E Φ t op l s K g b (.dat (.bool false))) : runB E Φ t op l s K g b (.dat (.bool c)) := by
  cases c
  · exact h2 rfl
  · exact h1 rfl
theorem runB_splitD {op : Op} {g : Nat} {b : Bool} {p : Prop} [Decidable p] (h1 : p → runB E Φ t op l s K g b (.dat (.bool true))) (h2 : ¬p → runB E Φ t op l s K g b (.dat (.bool false))) : runB E Φ t op l s K g b (.dat (.bool (decide p))) :=
  runB_split (fun h => h1 (of_decide_eq_true h)) fun h => h2 (of_decide_eq_false h)
theorem runA_splitD {p : Prop} [Decidable p] {x y : D} (h1 : p → runA E Φ t l s K (.val x)) (h2 : ¬p → runA E Φ t l s K (.val y)) : runA E Φ t l s K (.split (decide p) x y) :=
  runA_split (fun h => h1 (of_decide_eq_true h)) fun h => h2 (of_decide_eq_false h)
theorem runB_TT {op : Op} {g : Nat} : runB E Φ t op l s K g true (.dat (.bool true)) = runA E Φ t l (s.put g (.dat (.bool true))) K (evQ E Φ (evO E (s.put g (.dat (.bool true)))) s op) := by simp [runB]
theorem runB_FF {op : Op} {g : Nat} : runB E Φ t op l s K g false (.dat (.bool false)) = runA E Φ t l (s.put g (.dat (.bool false))) K (evQ E Φ (evO E (s.put g (.dat (.bool false)))) s op) := by simp [runB]
theorem runB_TF {op : Op} {g : Nat} : runB E Φ t op l s K g true (.dat (.bool false)) = runL E Φ l ((s.put g (.dat (.bool false))).put t (.tup [])) K := by simp [runB]
theorem runB_FT {op : Op} {g : Nat} : runB E Φ t op l s K g false (.dat (.bool true)) = runL E Φ l ((s.put g (.dat (.bool true))).put t (.tup [])) K := by simp [runB]
theorem runB_U {op : Op} {g : Nat} {b : Bool} : runB E Φ t op l s K g b (.tup []) = runL E Φ l (s.put t (.tup [])) K := rfl
end
/-! checks -/
theorem qAllL_nil {E : Env} {Φ : Fns} {st : St} {tF : Tm} : qAllL E Φ st tF [] = True := rfl
theorem qAllL_cons {E : Env} {Φ : Fns} {st : St} {tF : Tm} {t : Nat} {op : Op} {l : List SO} : qAllL E Φ st tF (⟨some t, op, none⟩ :: l) = ((t < st.c.n ∧ (evQ E Φ (evO E (st.withT tF)) st op).ok fun d => look tF t = d) ∧ qAllL E Φ st tF l) := rfl
/-- A guarded one: first the guard is looked at. -/
def qDo (E : Env) (Φ : Fns) (st : St) (tF : Tm) (op : Op) (t : Nat) (b : Bool) (d : D) : Prop := qGuard ((evQ E Φ (evO E (st.withT tF)) st op).ok fun d => look tF t = d) (look tF t = .tup []) b d
theorem qAllL_guard {E : Env} {Φ : Fns} {st : St} {tF : Tm} {t g : Nat} {b : Bool} {op : Op} {l : List SO} : qAllL E Φ st tF (⟨some t, op, some (some g, b)⟩ :: l) = ((t < st.c.n ∧ qDo E Φ st tF op t b (look tF g)) ∧ qAllL E Φ st tF l) := rfl
section
variable {E : Env} {Φ : Fns} {st : St} {tF : Tm} {op : Op} {t : Nat}
theorem qDo_TT : qDo E Φ st tF op t true (.dat (.bool true)) = (evQ E Φ (evO E (st.withT tF)) st op).ok fun d => look tF t = d := by simp [qDo, qGuard]
theorem qDo_FF : qDo E Φ st tF op t false (.dat (.bool false)) = (evQ E Φ (evO E (st.withT tF)) st op).ok fun d => look tF t = d := by simp [qDo, qGuard]
theorem qDo_TF : qDo E Φ st tF op t true (.dat (.bool false)) = (look tF t = .tup []) := by simp [qDo, qGuard]
theorem qDo_FT : qDo E Φ st tF op t false (.dat (.bool true)) = (look tF t = .tup []) := by simp [qDo, qGuard]
theorem qDo_U {b : Bool} : qDo E Φ st tF op t b (.tup []) = (look tF t = .tup []) := by simp [qDo, qGuard]
end
theorem qGuard_TT {f g : Prop} : qGuard f g true (.dat (.bool true)) = f := by simp [qGuard]
theorem qGuard_FF {f g : Prop} : qGuard f g false (.dat (.bool false)) = f := by simp [qGuard]
theorem qGuard_TF {f g : Prop} : qGuard f g true (.dat (.bool false)) = g := by simp [qGuard]
theorem qGuard_FT {f g : Prop} : qGuard f g false (.dat (.bool true)) = g := by simp [qGuard]
theorem qGuard_U {f g : Prop} {b : Bool} : qGuard f g b (.tup []) = g := by simp [qGuard]
theorem QA.ok_splitT {K : D → Prop} {x y : D} : QA.ok K (.split true x y) = K x := by simp [QA.ok]
theorem QA.ok_splitF {K : D → Prop} {x y : D} : QA.ok K (.split false x y) = K y := by simp [QA.ok]
theorem QA.ok_val {K : D → Prop} {x : D} : QA.ok K (.val x) = K x := rfl
theorem QA.ok_req {K : D → Prop} {p : Prop} {r : QA} : QA.ok K (.req p r) = (p ∧ QA.ok K r) := rfl
theorem QA.ok_stop {K : D → Prop} : QA.ok K .stop = False := rfl
def qAll (E : Env) (Φ : Fns) (ops : Array Oper) (st : St) (tF : Tm) : List Oper → Prop
  | [] => True
  | o :: l => (match o.dst with | some t => t < st.c.n ∧ qCheck E Φ ops st tF o t | none => False) ∧ qAll E Φ ops st tF l
theorem qAllL_ok {E : Env} {Φ : Fns} {ops : Array Oper} {st : St} {tF : Tm} : ∀ (l : List Oper), qAllL E Φ st tF (l.map (strip ops)) → qAll E Φ ops st tF l
  | [], _ => trivial
  | o :: l, h => by
    obtain ⟨dst, op, ty, pos, after, g⟩ := o
    simp only [List.map_cons, qAllL] at h
    refine ⟨?_, qAllL_ok l h.2⟩
    have h1 := h.1
    cases dst with
    | none => exact h1
    | some t =>
      refine ⟨h1.1, ?_⟩
      have h2 := h1.2
      unfold qCheck
      cases g with
      | none => exact h2
      | some jb =>
        obtain ⟨j, b⟩ := jb
        simp only [strip, stripG, qOne] at h2
        cases hg : gtmp ops j with
        | none => simp only [hg] at h2
        | some g => simp only [hg] at h2 ⊢; exact h2
theorem qAll_at {E : Env} {Φ : Fns} {ops : Array Oper} {st : St} {tF : Tm} : ∀ {l : List Oper}, qAll E Φ ops st tF l → ∀ o ∈ l, ∀ t, o.dst = some t → t < st.c.n ∧ qCheck E Φ ops st tF o t
  | [], _, o, ho, _, _ => by cases ho
  | x :: l, h, o, ho, t, ht => by
    simp only [qAll] at h
    rcases List.mem_cons.1 ho with rfl | ho
    · have := h.1
      rw [ht] at this
      exact this
    · exact qAll_at h.2 o ho t ht
section
variable {E : Env} {Φ : Fns} {ρ : Option Nat} {st : St} {K : Exit → St → Prop}
theorem VC.draw {id : Nat} {ops : Array Oper} (hΦ : Sound E Φ) (hm : E.P.follows .mixedOrders = true) (q : Nat) (hs : quietOK ops q = true)
    (h : ∀ L : St → Prop, (∀ s, qAll E Φ ops st s.c.t (ops.toList.take q) → (∀ K' : St → Prop, (∀ s, K .normal s → K' s) → goOps E Φ ops (ops.toList.drop q) s K') → L s) → runQ E Φ ops (ops.toList.take q) st L) :
    VC E ρ (.region id ops true) st K := fun Γ a as β w hΓ S => by
  subst hΓ
  refine wpIn_region_any hm ?_
  have hqn := quietOK_size hs
  obtain ⟨tw, ⟨hq, hK⟩, hkeys⟩ := runQ_some (p := fun _ => True) (fun _ _ _ _ _ => trivial) _ _ (h (fun s => qAll Γ.toEnv Φ ops st s.c.t (ops.toList.take q) ∧ ∀ K' : St → Prop, (∀ s, K .normal s → K' s) → goOps Γ.toEnv Φ ops (ops.toList.drop q) s K') fun s a b => ⟨a, b⟩)
  have hmem : ∀ o ∈ ops.toList.take q, ∃ i, i < q ∧ ops[i]? = some o := by
    intro o ho
    obtain ⟨i, hi⟩ := List.mem_iff_getElem?.1 ho
    obtain ⟨h1, h2⟩ := getElem?_take_lt hi
    exact ⟨i, h2, by simpa using h1⟩
  refine phase1 (Γ := Γ) (st := st) (as := as) (Q := fun e a w => ∃ st' β', Sim Γ st' a as β' w ∧ K e st') hΦ hs (K := K .normal) (fun st a β w S k => ⟨st, β, S, k⟩) (tF := tw ++ st.c.t) (fun u hu => ?_) (fun i o t hi ho ht => ?_) (hK _ fun _ k => k)
    ops.size (Array.replicate ops.size false) st.c.t a β w.drew (by simp) (unl_le _ _) (fun i _ hi => by simp [Array.getD_eq_getD_getElem?, hi]) (fun k o _ hk => by simp [Array.getD_eq_getD_getElem?, Array.getElem?_replicate] at hk; split at hk <;> simp at hk) S.drew (fun u => ?_)
  · have aux : ∀ (tw : Tm), (∀ x ∈ tw, x.1 ≠ u) → look (tw ++ st.c.t) u = look st.c.t u := by
      intro tw
      induction tw with
      | nil => intro _; rfl
      | cons x r ih => intro hx; simp only [List.cons_append, look]; rw [if_neg (hx x (by simp)), ih fun y hy => hx y (by simp [hy])]
    refine aux tw fun x hx => ?_
    rintro rfl
    obtain ⟨o, ho, hd⟩ := hkeys x hx
    obtain ⟨i, hi, hoi⟩ := hmem o ho
    obtain ⟨⟨⟨t, h1, h2⟩, h3⟩, _⟩ := (quietOK_at hs hoi).2.1 hi
    rcases hd with hd | ⟨j, b, hg, hgt⟩
    · rw [h1] at hd; injection hd with hd; subst hd
      rw [h2] at hu; cases hu
    · have hj := h3 j b hg
      have hoj := Array.getElem?_eq_getElem (show j < ops.size by omega)
      obtain ⟨⟨⟨t', h4, h5⟩, _⟩, _⟩ := (quietOK_at hs hoj).2.1 (by omega)
      simp only [gtmp, hoj, Option.bind_some, h4, Option.some.injEq] at hgt
      subst hgt
      rw [h5] at hu; cases hu
  · have : o ∈ ops.toList.take q := by
      refine List.mem_iff_getElem?.2 ⟨i, ?_⟩
      rw [List.getElem?_take, if_pos hi]
      simpa using ho
    exact qAll_at hq o this t ht
  · unfold lookV
    split
    · rename_i i hi
      have := (wr_dst hi).1
      rw [if_neg (by simp [Array.getD_eq_getD_getElem?, show i < ops.size by omega])]
    · rfl
end
theorem VC.drawL {E : Env} {Φ : Fns} {ρ : Option Nat} {st : St} {K : Exit → St → Prop} {id : Nat} {ops : Array Oper} (hΦ : Sound E Φ) (hm : E.P.follows .mixedOrders = true) (q : Nat) (hs : quietOK ops q = true)
    (h : ∀ L : St → Prop, (∀ s, qAllL E Φ st s.c.t ((ops.toList.take q).map (strip ops)) → (∀ K' : St → Prop, (∀ s, K .normal s → K' s) → goL E Φ ((ops.toList.drop q).map (strip ops)) s K') → L s) → runL E Φ ((ops.toList.take q).map (strip ops)) st L) :
    VC E ρ (.region id ops true) st K :=
  VC.draw hΦ hm q hs fun L hL => runL_ok _ _ ▸ h L fun s h1 h2 => hL s (qAllL_ok _ h1) fun K' hK => goL_ok _ _ ▸ h2 K' hK
theorem VC.regt {E : Env} {Φ : Fns} {ρ : Option Nat} {st : St} {K : Exit → St → Prop} {id : Nat} {ops : Array Oper} {y : Code} (hΦ : Sound E Φ) (ts : List Nat)
    (h : ∀ K' : St → Prop, (∀ s, VC E ρ y (s.keep ts) K → K' s) → goL E Φ (ops.toList.map (strip ops)) st K') : VC E ρ (.seq (.region id ops false) y) st K :=
  VC.reg hΦ fun K' hK => h K' fun s hs => hK s (hs.ent (Ent.keep s ts))
theorem VC.drawt {E : Env} {Φ : Fns} {ρ : Option Nat} {st : St} {K : Exit → St → Prop} {id : Nat} {ops : Array Oper} {y : Code} (hΦ : Sound E Φ) (hm : E.P.follows .mixedOrders = true) (q : Nat) (hs : quietOK ops q = true) (ts : List Nat)
    (h : ∀ L : St → Prop, (∀ s, qAllL E Φ st s.c.t ((ops.toList.take q).map (strip ops)) → (∀ K' : St → Prop, (∀ s, VC E ρ y (s.keep ts) K → K' s) → goL E Φ ((ops.toList.drop q).map (strip ops)) s K') → L s) → runL E Φ ((ops.toList.take q).map (strip ops)) st L) :
    VC E ρ (.seq (.region id ops true) y) st K :=
  VC.seq (VC.drawL hΦ hm q hs fun L hL => h L fun s a b => hL s a fun K' hK => b K' fun s hs => hK s (hs.ent (Ent.keep s ts)))
theorem blockK_same {id : Nat} {K : Exit → St → Prop} {s : St} : blockK id K (.exit id) s = K .normal s := by simp [blockK]
theorem blockK_other {id id' : Nat} {K : Exit → St → Prop} {s : St} (h : id' ≠ id) : blockK id K (.exit id') s = K (.exit id') s := by simp [blockK, h]
/-! tables of contracts -/
def tab : List (Nat × PFn) → Fns
  | [], _ => none
  | x :: l, f => if x.1 = f then some x.2 else tab l f
theorem sound_nil {E : Env} : Sound E (tab []) := fun f p h => by cases h
theorem sound_cons {E : Env} {f : Nat} {p : PFn} {l : List (Nat × PFn)} (hc : callable E.P f = true) (hp : Pure E f p) (h : Sound E (tab l)) : Sound E (tab ((f, p) :: l)) := by
  intro g q hq
  simp only [tab] at hq
  split at hq
  · rename_i e
    subst e
    injection hq with hq
    subst hq
    exact ⟨hc, hp⟩
  · exact h g q hq
attribute [go_sem] runL_nil runL_cons runL_guard qAllL_nil qAllL_cons qAllL_guard qDo_TT qDo_FF qDo_TF qDo_FT qDo_U runA_val runA_req runA_splitT runA_splitF runA_stop runB_TT runB_FF runB_TF runB_FT runB_U qGuard_TT qGuard_FF qGuard_TF qGuard_FT qGuard_U QA.ok_splitT QA.ok_splitF QA.ok_val QA.ok_req QA.ok_stop
attribute [go_sem] Res.q Res2.q evBuildF evQIface evQExtract evQPick evQBuiltin evQFn evQConv evQ qD qDs St.withT
attribute [go_sem] pureK pureS retK retS resD tupD dropH List.foldl_nil
end Go.Proofs.YtfbodageccednaaDoor.Vm
namespace Go.Proofs.YtfbodageccednaaDoor.Vm
open Go Go.RowKit
/-! ### The run in order is its own check -/
theorem evQ_congr {E : Env} {Φ : Fns} {f g : Operand → D} {st : St} (op : Op) (hf : ∀ x ∈ op.operands, f x = g x) : evQ E Φ f st op = evQ E Φ g st op := by
  cases op with
  | move x => simp only [evQ, hf x (by simp [Op.operands])]
  | assign x => simp only [evQ, hf x (by simp [Op.operands])]
  | pick c x y => simp only [evQ, hf c (by simp [Op.operands]), hf x (by simp [Op.operands]), hf y (by simp [Op.operands])]
  | build t' ps =>
    simp only [evQ]
    have e : (ps.toList.map fun p => (p.1, f p.2)) = ps.toList.map fun p => (p.1, g p.2) :=
      List.map_congr_left fun p hp => by rw [hf p.2 (by simp [Op.operands]; exact ⟨p.1, by simpa using hp⟩)]
    rw [e]
  | load t' x => simp only [evQ, hf x (by simp [Op.operands])]
  | nilCheck x => simp only [evQ, hf x (by simp [Op.operands])]
  | binOp op t' x y yt => simp only [evQ, hf x (by simp [Op.operands]), hf y (by simp [Op.operands])]
  | unOp op t' x => simp only [evQ, hf x (by simp [Op.operands])]
  | convert src dst x => simp only [evQ, hf x (by simp [Op.operands])]
  | makeInterface t' x => simp only [evQ, hf x (by simp [Op.operands])]
  | makeFunc g' xs ys =>
    simp only [evQ]
    rw [map_agree (g := g) fun x hx => hf x (by simp [Op.operands]; exact .inl (by simpa using hx)), map_agree (xs := ys.toList) (g := g) fun x hx => hf x (by simp [Op.operands]; exact .inr (by simpa using hx))]
  | slice t' x lo hi mx =>
    simp only [evQ]
    rw [hf x (by simp [Op.operands]), opt_agree (g := g) fun y hy => hf y (by simp [Op.operands] at hy ⊢; simp [hy]),
      opt_agree (x := hi) (g := g) fun y hy => hf y (by simp [Op.operands] at hy ⊢; simp [hy]),
      opt_agree (x := mx) (g := g) fun y hy => hf y (by simp [Op.operands] at hy ⊢; simp [hy])]
  | fieldAddr t' x i => simp only [evQ, hf x (by simp [Op.operands])]
  | field t' x i => simp only [evQ, hf x (by simp [Op.operands])]
  | indexAddr t' x i => simp only [evQ, hf x (by simp [Op.operands]), hf i (by simp [Op.operands])]
  | index t' x i => simp only [evQ, hf x (by simp [Op.operands]), hf i (by simp [Op.operands])]
  | extract x i => simp only [evQ, hf x (by simp [Op.operands])]
  | call c =>
    obtain ⟨cal, args, ats⟩ := c
    have ha : args.toList.map f = args.toList.map g := map_agree fun x hx => hf x (by simp [Op.operands, Call.operands]; exact .inr (by simpa using hx))
    cases cal with
    | builtin b => simp only [evQ, ha]
    | value h => simp only [evQ, ha, hf h (by simp [Op.operands, Call.operands])]
    | invoke _ _ => rfl
  | _ => rfl
theorem evQ_withT {E : Env} {Φ : Fns} {f : Operand → D} {st : St} {t : Tm} (op : Op) : evQ E Φ f (st.withT t) op = evQ E Φ f st op := by
  cases op with
  | call c =>
    obtain ⟨cal, args, ats⟩ := c
    cases cal <;> rfl
  | _ => rfl
theorem qCheck_withT {E : Env} {Φ : Fns} {ops : Array Oper} {st : St} {t' tF : Tm} {o : Oper} {t : Nat} : qCheck E Φ ops (st.withT t') tF o t = qCheck E Φ ops st tF o t := by
  unfold qCheck
  simp only [evQ_withT]
  rfl
theorem QA.run_ok {f : D → Prop} : ∀ {r : QA}, r.run f → ∃ d, f d ∧ r.ok fun d' => d = d'
  | .val d, h => ⟨d, h, rfl⟩
  | .req p r, h => let ⟨d, a, b⟩ := QA.run_ok (r := r) h.2; ⟨d, a, h.1, b⟩
  | .all _ _, h => h.elim
  | .split c x y, h => by
    cases c
    · exact ⟨y, h.2 rfl, (fun e => by cases e), fun _ => rfl⟩
    · exact ⟨x, h.1 rfl, (fun _ => rfl), fun e => by cases e⟩
  | .stop, h => h.elim
theorem QA.ok_mono {p p' : D → Prop} (hp : ∀ d, p d → p' d) : ∀ {r : QA}, r.ok p → r.ok p'
  | .val d, h => hp _ h
  | .req _ r, h => ⟨h.1, QA.ok_mono (r := r) hp h.2⟩
  | .all _ _, h => fun b hb => hp _ (h b hb)
  | .split c x y, h => ⟨fun e => hp _ (h.1 e), fun e => hp _ (h.2 e)⟩
  | .stop, h => h
theorem look_put_same {s : St} {t u : Nat} {d : D} (h : look s.c.t t = d) : look (s.put t d).c.t u = look s.c.t u := by
  show look ((t, d) :: s.c.t) u = _
  simp only [look]
  by_cases e : t = u
  · subst e; rw [if_pos rfl, h]
  · rw [if_neg e]
theorem look_put_ne {s : St} {t u : Nat} {d : D} (h : t ≠ u) : look (s.put t d).c.t u = look s.c.t u := by
  show look ((t, d) :: s.c.t) u = _
  simp only [look]
  rw [if_neg h]
theorem look_put_eq {s : St} {t : Nat} {d : D} : look (s.put t d).c.t t = d := by
  show look ((t, d) :: s.c.t) t = _
  simp only [look, if_true]
theorem evO_same {E : Env} {s s' : St} {x : Operand} (h : ∀ u, x = .tmp u → look s.c.t u = look s'.c.t u) : evO E s x = evO E s' x := by
  cases x with
  | tmp u => exact h u rfl
  | _ => rfl
theorem runQ_all {E : Env} {Φ : Fns} {ops : Array Oper} {q : Nat} {K : St → Prop} (hs : quietOK ops q = true) : ∀ (l : List Oper) (i : Nat) (s : St), (ops.toList.take q).drop i = l → runQ E Φ ops l s K →
    ∃ tF : Tm, K (s.withT tF) ∧ (∀ u, (∀ j, i ≤ j → wr ops q u ≠ some j) → look tF u = look s.c.t u) ∧ ∀ j o t, i ≤ j → j < q → ops[j]? = some o → o.dst = some t → qCheck E Φ ops s tF o t
  | [], i, s, hl, h => by
    refine ⟨s.c.t, h, fun u _ => rfl, fun j o t hij hjq ho _ => ?_⟩
    have hqn := quietOK_size hs
    have := congrArg List.length hl
    simp at this
    omega
  | o :: l, i, s, hl, h => by
    have hqn := quietOK_size hs
    have hi : i < q := by
      have := congrArg List.length hl
      simp at this
      omega
    have ho : ops[i]? = some o := by
      have := congrArg List.head? hl
      rw [List.head?_drop, List.getElem?_take, if_pos hi] at this
      simpa using this
    have hl' : (ops.toList.take q).drop (i + 1) = l := by
      rw [← List.tail_drop, hl]; rfl
    obtain ⟨⟨⟨t, hd, hw⟩, hgd⟩, hlooks⟩ := (quietOK_at hs ho).2.1 hi
    have hafter := (quietOK_at hs ho).1
    have hbefore : ∀ u ∈ o.looksAt ops, ∀ j, wr ops q u = some j → j < i := by
      intro u hu j hj
      obtain ⟨e, he, e1, e2⟩ := hangs_ok (hlooks u hu j hj)
      rw [← e1]; exact hafter e he e2
    -- what is done with a value of t, from a state that looks as s
    have fin : ∀ (s0 : St) (t0 : Tm) (d : D), s0 = s.withT t0 → (∀ u, look s0.c.t u = look s.c.t u) → runQ E Φ ops l (s0.put t d) K → (∀ tF : Tm, (∀ u, (∀ j, i + 1 ≤ j → wr ops q u ≠ some j) → u ≠ t → look tF u = look s.c.t u) → look tF t = d → qCheck E Φ ops s tF o t) →
        ∃ tF : Tm, K (s.withT tF) ∧ (∀ u, (∀ j, i ≤ j → wr ops q u ≠ some j) → look tF u = look s.c.t u) ∧ ∀ j o t, i ≤ j → j < q → ops[j]? = some o → o.dst = some t → qCheck E Φ ops s tF o t := by
      intro s0 t0 d hs0 hlk hrun hck
      obtain ⟨tF, h1, h2, h3⟩ := runQ_all hs l (i + 1) (s0.put t d) hl' hrun
      subst hs0
      refine ⟨tF, h1, fun u hu => ?_, fun j o' t' hij hjq ho' hd' => ?_⟩
      · rw [h2 u fun j hj => hu j (by omega), look_put_ne, hlk u]
        rintro rfl
        exact hu i (Nat.le_refl _) hw
      · rcases Nat.lt_or_ge i j with hlt | hge
        · have := h3 j o' t' hlt hjq ho' hd'
          rw [show ((s.withT t0).put t d) = s.withT ((t, d) :: t0) from rfl, qCheck_withT] at this
          exact this
        · have e : i = j := by omega
          subst e
          rw [ho] at ho'; injection ho' with ho'; subst ho'
          rw [hd] at hd'; injection hd' with hd'; subst hd'
          refine hck tF (fun u hu hne => ?_) ?_
          · rw [h2 u hu, look_put_ne (Ne.symm hne), hlk u]
          · rw [h2 t, look_put_eq]
            intro j hj e
            rw [hw] at e; injection e with e; omega
    -- the operands look the same
    have hopd : ∀ (tF : Tm) (s0 : St), (∀ u, look s0.c.t u = look s.c.t u) → (∀ u, (∀ j, i + 1 ≤ j → wr ops q u ≠ some j) → u ≠ t → look tF u = look s.c.t u) → ∀ x ∈ o.op.operands, evO E s0 x = evO E (s.withT tF) x := by
      intro tF s0 hlk h x hx
      refine evO_same fun u e => ?_
      subst e
      have hu : u ∈ o.looksAt ops := by
        unfold Oper.looksAt
        exact List.mem_append_left _ (List.mem_filterMap.2 ⟨.tmp u, by simpa using hx, rfl⟩)
      rw [hlk u]
      refine (h u (fun j hj e => ?_) ?_).symm
      · have := hbefore u hu j e; omega
      · rintro rfl
        have := hbefore _ hu i hw; omega
    have hrunok : ∀ (s0 : St) (t0 : Tm), s0 = s.withT t0 → (∀ u, look s0.c.t u = look s.c.t u) → ∀ (F : D → Prop), (evQ E Φ (evO E s0) s o.op).run F → ∃ d, F d ∧ ∀ tF : Tm, (∀ u, (∀ j, i + 1 ≤ j → wr ops q u ≠ some j) → u ≠ t → look tF u = look s.c.t u) → look tF t = d → (evQ E Φ (evO E (s.withT tF)) s o.op).ok fun d => look tF t = d := by
      intro s0 t0 hs0 hlk F hr
      obtain ⟨d, h1, h2⟩ := QA.run_ok hr
      refine ⟨d, h1, fun tF hF ht => ?_⟩
      rw [← evQ_congr o.op (hopd tF s0 hlk hF)]
      exact QA.ok_mono (fun d' e => ht.trans e) h2
    unfold runQ at h
    rw [hd] at h
    simp only [] at h
    cases hg : o.guard with
    | none =>
      rw [hg] at h
      simp only [] at h
      obtain ⟨d, h1, h2⟩ := hrunok s s.c.t rfl (fun _ => rfl) _ h
      refine fin s s.c.t d rfl (fun _ => rfl) h1 fun tF hF ht => ?_
      unfold qCheck
      rw [hg]
      exact h2 tF hF ht
    | some jb =>
      obtain ⟨j, b⟩ := jb
      rw [hg] at h
      simp only [] at h
      split at h
      · exact h.elim
      · rename_i g hgt
        have hgl : ∀ tF : Tm, (∀ u, (∀ j, i + 1 ≤ j → wr ops q u ≠ some j) → u ≠ t → look tF u = look s.c.t u) → look tF g = look s.c.t g := by
          intro tF hF
          have hu : g ∈ o.looksAt ops := by
            unfold Oper.looksAt
            refine List.mem_append_right _ ?_
            rw [hg]
            simp only []
            rw [show (ops[j]?).bind (·.dst) = some g from hgt]
            simp
          refine hF g (fun j hj e => ?_) ?_
          · have := hbefore g hu j e; omega
          · rintro rfl
            have := hbefore _ hu i hw; omega
        split at h
        · rename_i c hc
          by_cases hcb : c = b
          · subst hcb
            obtain ⟨d, h1, h2⟩ := hrunok (s.put g (.dat (.bool c))) _ rfl (fun u => look_put_same hc) _ (h.1 rfl)
            refine fin (s.put g (.dat (.bool c))) _ d rfl (fun u => look_put_same hc) h1 fun tF hF ht => ?_
            unfold qCheck
            rw [hg]
            simp only [hgt, hgl tF hF, hc, qGuard]
            exact ⟨fun _ => h2 tF hF ht, fun e => by cases c <;> cases e⟩
          · have hcb' : c = !b := by cases c <;> cases b <;> simp_all
            have h1 := h.2 hcb'
            rw [← hcb'] at h1
            refine fin (s.put g (.dat (.bool c))) _ _ rfl (fun u => look_put_same hc) h1 fun tF hF ht => ?_
            unfold qCheck
            rw [hg]
            simp only [hgt, hgl tF hF, hc, qGuard]
            exact ⟨fun e => absurd e hcb, fun _ => ht⟩
        · rename_i hc
          refine fin s s.c.t _ rfl (fun _ => rfl) h fun tF hF ht => ?_
          unfold qCheck
          rw [hg]
          simp only [hgt, hgl tF hF, hc, qGuard]
          exact ht
        · exact h.elim
/-- Its destinations are there. -/
def dstsOK (ops : Array Oper) (q n : Nat) : Bool := (ops.toList.take q).all fun o => match o.dst with | some t => decide (t < n) | none => true
section
variable {E : Env} {Φ : Fns} {ρ : Option Nat} {st : St} {K : Exit → St → Prop}
theorem VC.drawN {id : Nat} {ops : Array Oper} (hΦ : Sound E Φ) (hm : E.P.follows .mixedOrders = true) (q : Nat) (hs : quietOK ops q = true) (hn : dstsOK ops q st.c.n = true)
    (h : ∀ L : St → Prop, (∀ s, (∀ K' : St → Prop, (∀ s, K .normal s → K' s) → goL E Φ ((ops.toList.drop q).map (strip ops)) s K') → L s) → runL E Φ ((ops.toList.take q).map (strip ops)) st L) :
    VC E ρ (.region id ops true) st K := fun Γ a as β w hΓ S => by
  subst hΓ
  refine wpIn_region_any hm ?_
  have hqn := quietOK_size hs
  have hr := h (fun s => ∀ K' : St → Prop, (∀ s, K .normal s → K' s) → goL Γ.toEnv Φ ((ops.toList.drop q).map (strip ops)) s K') fun s a => a
  rw [runL_ok] at hr
  obtain ⟨tF, hK, hF, hq⟩ := runQ_all hs _ 0 st rfl hr
  refine phase1 (Γ := Γ) (st := st) (as := as) (Q := fun e a w => ∃ st' β', Sim Γ st' a as β' w ∧ K e st') hΦ hs (K := K .normal) (fun st a β w S k => ⟨st, β, S, k⟩) (tF := tF) (fun u hu => hF u fun j _ e => ?_) (fun i o t hi ho ht => ⟨?_, hq i o t (Nat.zero_le _) hi ho ht⟩) ?_
    ops.size (Array.replicate ops.size false) st.c.t a β w.drew (by simp) (unl_le _ _) (fun i _ hi => by simp [Array.getD_eq_getD_getElem?, hi]) (fun k o _ hk => by simp [Array.getD_eq_getD_getElem?, Array.getElem?_replicate] at hk; split at hk <;> simp at hk) S.drew (fun u => ?_)
  · rw [hu] at e; cases e
  · have : o ∈ ops.toList.take q := by
      refine List.mem_iff_getElem?.2 ⟨i, ?_⟩
      rw [List.getElem?_take, if_pos hi]
      simpa using ho
    have := List.all_eq_true.1 hn o this
    rw [ht] at this
    simpa using this
  · have := hK (K .normal) fun _ k => k
    rw [goL_ok] at this
    exact this
  · unfold lookV
    split
    · rename_i i hi
      have := (wr_dst hi).1
      rw [if_neg (by simp [Array.getD_eq_getD_getElem?, show i < ops.size by omega])]
    · rfl
theorem VC.draw1 {id : Nat} {ops : Array Oper} {y : Code} (hΦ : Sound E Φ) (hm : E.P.follows .mixedOrders = true) (q : Nat) (hs : quietOK ops q = true) (hn : dstsOK ops q st.c.n = true) (ts : List Nat)
    (h : ∀ L : St → Prop, (∀ s, (∀ K' : St → Prop, (∀ s, VC E ρ y (s.keep ts) K → K' s) → goL E Φ ((ops.toList.drop q).map (strip ops)) s K') → L s) → runL E Φ ((ops.toList.take q).map (strip ops)) st L) :
    VC E ρ (.seq (.region id ops true) y) st K :=
  VC.seq (VC.drawN hΦ hm q hs hn fun L hL => h L fun s a => hL s fun K' hK => a K' fun s hs => hK s (hs.ent (Ent.keep s ts)))
end
end Go.Proofs.YtfbodageccednaaDoor.Vm
namespace Go.Proofs.YtfbodageccednaaDoor.Vm
open Go Go.RowKit
/-! ### Loops over the state in which they begin -/
/-- This state, but for these temporaries and all blocks. -/
def St.over (st : St) (ts : List Nat) (f : Tm) (h : List (Nat × Blk)) : St := ⟨⟨st.c.n, f ++ keepT ts st.c.t, st.c.m⟩, st.s, h⟩
theorem look_append_mem {f g : Tm} {u : Nat} : look (f ++ g) u = .junk ∨ ∃ x ∈ f ++ g, x.1 = u ∧ look (f ++ g) u = x.2 := by
  induction f with
  | nil =>
    induction g with
    | nil => exact .inl rfl
    | cons x r ih =>
      simp only [List.nil_append, look]
      by_cases e : x.1 = u
      · rw [if_pos e]; exact .inr ⟨x, by simp, e, rfl⟩
      · rw [if_neg e]
        rcases ih with h | ⟨y, hy, h1, h2⟩
        · exact .inl h
        · exact .inr ⟨y, by simp at hy ⊢; exact .inr hy, h1, h2⟩
  | cons x r ih =>
    simp only [List.cons_append, look]
    by_cases e : x.1 = u
    · rw [if_pos e]; exact .inr ⟨x, by simp, e, rfl⟩
    · rw [if_neg e]
      rcases ih with h | ⟨y, hy, h1, h2⟩
      · exact .inl h
      · exact .inr ⟨y, by simp at hy ⊢; exact .inr hy, h1, h2⟩
theorem Ent.into {s : St} {n : Nat} {tm : Tm} {m : List Nat} {fs : List Fr} {h : List (Nat × Blk)} (ht : ∀ x ∈ tm, look s.c.t x.1 = x.2) (hn : s.c.n = n) (hm : s.c.m = m) (hs : s.s = fs) (hh : s.h = h) : Ent s ⟨⟨n, tm, m⟩, fs, h⟩ := by
  subst hn hm hs hh
  refine Ent.temps (n := s.c.n) (t := s.c.t) (m := s.c.m) (s := s.s) (h := s.h) fun u => ?_
  have := look_append_mem (f := tm) (g := []) (u := u)
  rw [List.append_nil] at this
  rcases this with h | ⟨x, hx, h1, h2⟩
  · exact .inr h
  · left
    rw [h2, ← h1]
    exact (ht x hx).symm
/-- A loop: what its state tells of these temporaries is f's, of those ones what it was. -/
theorem VC.loopP {E : Env} {ρ : Option Nat} {st : St} {K : Exit → St → Prop} {ι : Type} {c : Code} (ts : List Nat) (f : ι → Tm) (h : ι → List (Nat × Blk)) (p : ι → Prop) (μ : ι → Nat) (i0 : ι) (hp : p i0)
    (h0 : Ent st (st.over ts (f i0) (h i0))) (step : ∀ i, p i → VC E ρ c (st.over ts (f i) (h i)) (thenK (fun s => ∃ j, p j ∧ Ent s (st.over ts (f j) (h j)) ∧ μ j < μ i) K)) : VC E ρ (.loop c) st K :=
  VC.loop (fun i => st.over ts (f i) (h i)) p μ i0 hp h0 step
attribute [go_sem] St.over
end Go.Proofs.YtfbodageccednaaDoor.Vm
namespace Go.Proofs.YtfbodageccednaaDoor.Vm
open Go Go.RowKit
/-! ### Rules that leave the code alone -/
section
variable {E : Env} {Φ : Fns} {ρ : Option Nat} {st st' : St} {K : Exit → St → Prop} {f : St → Prop} {s : St}
theorem VC.at {c : Code} (h : st = st') (hv : VC E ρ c st' K) : VC E ρ c st K := h ▸ hv
theorem K_at {e : Exit} (h : st = st') (hv : K e st') : K e st := h ▸ hv
theorem VC.condb {c : Operand} {x y : Code} {b : Bool} (hc : evO E st c = .dat (.bool b)) (h1 : b = true → VC E ρ x st K) (h2 : b = false → VC E ρ y st K) : VC E ρ (.cond c x y) st K :=
  VC.cond (by rw [hc]; exact ⟨h1, h2⟩)
theorem VC.condd {c : Operand} {x y : Code} {p : Prop} {_ : Decidable p} (hc : evO E st c = .dat (.bool (decide p))) (h1 : p → VC E ρ x st K) (h2 : ¬ p → VC E ρ y st K) : VC E ρ (.cond c x y) st K :=
  VC.condb hc (fun h => h1 (of_decide_eq_true h)) fun h => h2 (of_decide_eq_false h)
theorem VC.condn {c : Operand} {x y : Code} {p : Prop} {_ : Decidable p} (hc : evO E st c = .dat (.bool (!decide p))) (h1 : ¬ p → VC E ρ x st K) (h2 : p → VC E ρ y st K) : VC E ρ (.cond c x y) st K :=
  VC.condb hc (fun h => h1 (by simpa using h)) fun h => h2 (by simpa using h)
theorem VC.condt {c : Operand} {x y : Code} {b : Bool} (hc : evO E st c = .dat (.bool (!b))) (h1 : b = false → VC E ρ x st K) (h2 : b = true → VC E ρ y st K) : VC E ρ (.cond c x y) st K :=
  VC.condb hc (fun h => h1 (by simpa using h)) fun h => h2 (by simpa using h)
theorem thenK_n (h : f s) : thenK f K .normal s := h
theorem thenK_e {id : Nat} (h : K (.exit id) s) : thenK f K (.exit id) s := h
theorem thenK_r (h : K .ret s) : thenK f K .ret s := h
theorem thenK_g {l : Nat} (h : K (.goto l) s) : thenK f K (.goto l) s := h
theorem blockK_n {id : Nat} (h : K .normal s) : blockK id K .normal s := h
theorem blockK_r {id : Nat} (h : K .ret s) : blockK id K .ret s := h
theorem blockK_e {id : Nat} (h : K .normal s) : blockK id K (.exit id) s := by rw [blockK_same]; exact h
theorem blockK_m {id id' : Nat} (hn : id' ≠ id) (h : K (.exit id') s) : blockK id K (.exit id') s := by rw [blockK_other hn]; exact h
end
/-- A joint: what stands there is told over the state ahead. -/
theorem VC.cutP {E : Env} {ρ : Option Nat} {st : St} {K : Exit → St → Prop} {ι : Type} {x y : Code} (ts : List Nat) (f : ι → Tm) (h : ι → List (Nat × Blk)) (p : ι → Prop) (hx : VC E ρ x st (thenK (fun s => ∃ j, p j ∧ Ent s (st.over ts (f j) (h j))) K))
    (hy : ∀ i, p i → VC E ρ y (st.over ts (f i) (h i)) K) : VC E ρ (.seq x y) st K := VC.cut _ p hx hy
end Go.Proofs.YtfbodageccednaaDoor.Vm


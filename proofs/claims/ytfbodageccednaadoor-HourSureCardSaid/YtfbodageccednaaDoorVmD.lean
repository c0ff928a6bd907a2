/- An abstract machine over values: loops over functions, marks, rows (fourth part). No condition. -/
import Derived.Test.YtfbodageccednaaDoorVmC
import Derived.RangeFuncIn
import Derived.Laws.IdiomCopy
import Derived.ChangeSlices
import Derived.WideShapes
import Derived.DataReads
set_option linter.unusedVariables false
set_option linter.unusedSimpArgs false
namespace Go.Proofs.YtfbodageccednaaDoor.Vm
open Go Go.RowKit
/-! ### Loops over a function -/
section
variable {Γ : Ctx} {st : St} {a : Act} {as : List Act} {β : Nat → Pl} {w : World}
theorem Sim.loopTurn (S : Sim Γ st a as β w) {l n : Nat} {tm : Tm} {ps : List Tmp} {as' bd : Code} {s0 : LoopState} {p0 : Option Code} (hf : find st.h l = some (.loop tm n ps as' bd s0 p0)) :
    ∃ b c sz r, β l = .blk b c sz ∧ w.heap[b]? = some (.loop r) ∧ r.params.toList = ps ∧ r.assign = as' ∧ r.body = bd ∧ r.state = s0 ∧ r.pending = p0 ∧ r.tmps.size = n ∧ (s0 = .exhausted ∨ b = Γ.pin l) ∧ (∀ t, RVD w (Im Γ β st.h w) β (look tm t) (r.tmps.getD t undef)) ∧
      ∀ s1 p1, (s1 = .exhausted ∨ s0 ≠ .exhausted) → Sim Γ (st.setB l (.loop tm n ps as' bd s1 p1)) a as β (w.putObj b (.loop { r with state := s1, pending := p1 })) := by
  obtain ⟨b, c, sz, r, hb, hge, hh, h1, h2, h3, h4, h5, h6, hp, h7⟩ := S.heap l _ hf
  refine ⟨b, c, sz, r, hb, hh, h1, h2, h3, h4, h5, h6, hp, h7, fun s1 p1 hs1 => ?_⟩
  have hlt := (Array.getElem?_eq_some_iff.1 hh).1
  have hmut : ∀ o, Mut β l (.loop tm n ps as' bd s0 p0) b o := fun o => ⟨c, sz, hb⟩
  have hne : ∀ b' o, Im Γ β st.h w b' o → b' ≠ b := by
    rintro b' o h rfl
    rcases h with h | ⟨_, _, h3⟩
    · have := S.hJ _ _ h; omega
    · exact h3 l _ hf (hmut o)
  refine S.turn (w' := w.putObj b (.loop { r with state := s1, pending := p1 })) hf (Below.put S.below hge) (by simp [World.putObj]) (fun b' o h => cell_of_heap (World.putObj_heap_other (hne b' o h)) o) (fun b' o h => h) (fun k B2 b2 c2 sz2 hk hf2 hb2 => ?_) fun K => ?_
  · refine World.putObj_heap_other ?_
    rintro rfl
    exact hk (S.apart k l B2 _ _ _ _ _ _ hf2 hf hb2 hb)
  · refine ⟨b, c, sz, { r with state := s1, pending := p1 }, hb, hge, World.putObj_heap_same hlt, h1, h2, h3, rfl, rfl, h6, ?_, fun t => (h7 t).keeps K⟩
    rcases hs1 with h | h
    · exact .inl h
    · exact .inr (hp.resolve_left h)
theorem Sim.pop {c fr : Fr} {rest : List Fr} {h : List (Nat × Blk)} {a0 : Act} (S : Sim Γ ⟨c, fr :: rest, h⟩ a (a0 :: as) β w) : Sim Γ ⟨fr, rest, h⟩ a0 as β w := by
  obtain ⟨h1, h2, h3, h4, h5, ⟨a1, as1, e, h6, h7⟩, h8⟩ := S
  injection e with e1 e2
  subst e1 e2
  exact ⟨h1, h2, h3, h4, h6, h7, h8⟩
def putAll : List Tmp → List D → Tm → Tm
  | p :: ps, d :: ds, tm => putAll ps ds ((p, d) :: tm)
  | _, _, tm => tm
theorem putAll_ok {w : World} {I : Cset} {n : Nat} {m : List Nat} : ∀ (ps : List Tmp) (ds : List D) (vs : List Value) (tm : Tm) (tmps : Array Value) (ds' : List Deferred), FrOK w I β ⟨n, tm, m⟩ ⟨tmps, ds'⟩ → RVDs w I β ds vs → (∀ p ∈ ps, p < n) →
    FrOK w I β ⟨n, putAll ps ds tm, m⟩ ⟨(ps.zip vs).foldl (fun t x => t.setIfInBounds x.1 x.2) tmps, ds'⟩
  | [], ds, vs, tm, tmps, ds', h, _, _ => by cases ds <;> exact h
  | p :: ps, [], vs, tm, tmps, ds', h, hv, _ => by
    simp only [RVDs] at hv; subst hv
    exact h
  | p :: ps, d :: ds, vs, tm, tmps, ds', h, hv, hp => by
    simp only [RVDs] at hv
    obtain ⟨v, r, rfl, h1, h2⟩ := hv
    have := h.put (t := p) (hp p (by simp)) h1
    exact putAll_ok ps ds r ((p, d) :: tm) _ ds' this h2 fun q hq => hp q (by simp [hq])
/-- The state in a round. -/
def St.round (st : St) (l : Nat) (tm : Tm) (n : Nat) (ps : List Tmp) (ds : List D) : St := ⟨⟨n, putAll ps ds tm, []⟩, st.c :: st.s, st.h⟩
def jumpOf : Exit → Option (Option Code)
  | .normal => some none
  | .ret => some (some .ret)
  | .exit id => some (some (.exit id))
  | .goto t => some (some (.goto t))
  | _ => none
def endS (l : Nat) (j : Option Code) (s : St) (K : D → St → Prop) : Prop :=
  match find s.h l, s.s with
  | some (.loop tm n ps a b .busy _), fr :: rest => K (.dat (.bool j.isNone)) ⟨fr, rest, hSet l (.loop tm n ps a b (if j.isNone then .ready else .done) j) s.h⟩
  | _, _ => False
def endK (l : Nat) (K : D → St → Prop) : Exit → St → Prop
  | .normal, s => endS l none s K
  | .ret, s => endS l (some .ret) s K
  | .exit id, s => endS l (some (.exit id)) s K
  | .goto t, s => endS l (some (.goto t)) s K
  | _, _ => False
def begS (E : Env) (l : Nat) (body : Code) (K : D → St → Prop) (s : St) : Prop :=
  match find s.h l with
  | some (.loop tm n ps a b .ready p) => VC E (some l) body (s.setB l (.loop tm n ps a b .busy p)) (endK l K)
  | _ => False
def begK (E : Env) (l : Nat) (body : Code) (K : D → St → Prop) : Exit → St → Prop
  | .normal, s => begS E l body K s
  | _, _ => False
theorem endS_ok {a0 : Act} (S : Sim Γ st a (a0 :: as) β w) {l : Nat} {j : Option Code} {K : D → St → Prop} (h : endS l j st K) :
    ∃ v w', (Instr.endRound (Γ.pin l) j).run Γ.P w = .ok v w' ∧ Back Γ a0 as K (.returned v) w' := by
  unfold endS at h
  split at h
  · rename_i tm n ps a' b' p0 fr rest hf hs
    obtain ⟨b2, c2, sz2, r, hb2, hh, _, _, _, _, _, _, hp, _, ht⟩ := S.loopTurn hf
    obtain rfl : b2 = Γ.pin l := hp.resolve_left (by simp)
    refine ⟨_, _, run_endRound j hh, .bool j.isNone, .dat (.bool j.isNone), _, β, rfl, ?_, by simp only [RVD, RV], h⟩
    have hS := ht (if j.isNone then .ready else .done) j (.inr (by simp))
    obtain ⟨sc, ss, sh⟩ := st
    simp only at hs
    subst hs
    exact Sim.pop hS
  · exact h.elim
theorem zip_foldl (xs : Array Tmp) (ys : Array Value) (init : Array Value) : (xs.zip ys).foldl (fun tmps (t, a) => tmps.setIfInBounds t a) init = (xs.toList.zip ys.toList).foldl (fun t x => t.setIfInBounds x.1 x.2) init := by
  rw [← Array.foldl_toList, Array.toList_zip]
theorem VCyield.round {E : Env} {l n : Nat} {tm : Tm} {ps : List Tmp} {ds : List D} {assign body : Code} {p0 : Option Code} {st : St} {K : D → St → Prop} (hf : find st.h l = some (.loop tm n ps assign body .ready p0)) (hlen : ds.length = ps.length)
    (hps : ∀ p ∈ ps, p < n) (h : VC E (some l) assign (st.round l tm n ps ds) (begK E l body K)) : VCyield E l ds st K := by
  intro Γ a as β w args b c sz hΓ S hb hargs
  subst hΓ
  obtain ⟨b2, c2, sz2, r, hb2, hh, e1, e2, e3, e4, e5, e6, hp, ht, -⟩ := S.loopTurn hf
  rw [hb] at hb2; injection hb2 with eb; subst eb
  obtain rfl : b = Γ.pin l := hp.resolve_left (by simp)
  have hsz : args.size = r.params.size := by
    have h1 := hargs.length
    have h2 := congrArg List.length e1
    simp at h1 h2
    omega
  refine ⟨r.fn, _, r.assign, r.body, run_yield hh hsz, roundIn_of_wpIn trivial ?_⟩
  rw [zip_foldl, e1, e2, e3]
  have S1 : Sim Γ (st.round l tm n ps ds) ⟨(ps.zip args.toList).foldl (fun t x => t.setIfInBounds x.1 x.2) r.tmps, []⟩ (a :: as) β w :=
    ⟨S.below, S.hJ, S.glob, S.apart, putAll_ok (m := []) ps ds args.toList tm r.tmps [] ⟨e6, ht, rfl⟩ hargs hps, ⟨a, as, rfl, S.cur, S.stk⟩, S.heap⟩
  refine wpIn_mono (h Γ _ (a :: as) β w rfl S1) ?_
  rintro e a1 w1 ⟨s1, β1, S2, k⟩
  cases e with
  | normal =>
    simp only [begK, begS] at k
    split at k
    · rename_i tm' n' ps' as' bd' p' hf'
      obtain ⟨b3, c3, sz3, r3, hb3, hh3, g1, g2, g3, g4, g5, g6, hp3, ht3, turn3⟩ := S2.loopTurn hf'
      obtain rfl : b3 = Γ.pin l := hp3.resolve_left (by simp)
      subst g5
      refine ⟨_, run_beginRound hh3 g4, ?_⟩
      refine wpIn_mono (k Γ a1 (a :: as) β1 _ rfl (turn3 .busy r3.pending (.inr (by simp)))) ?_
      rintro e a3 w3 ⟨s3, β3, S3, k3⟩
      cases e with
      | normal => exact endS_ok S3 k3
      | ret => exact endS_ok S3 k3
      | exit id => exact endS_ok S3 k3
      | goto t => exact endS_ok S3 k3
      | _ => exact k3.elim
    · exact k.elim
  | _ => exact k.elim
/-! the statement -/
/-- The state in which the function that is ranged over is called. -/
def St.ranged (st : St) (m l : Nat) (ps : List Tmp) (assign body : Code) : St :=
  let s1 := st.add m .defer
  let s2 := s1.add l (.loop (Tm.erase l s1.c.t) s1.c.n ps assign body .ready none)
  ⟨⟨s2.c.n, s2.c.t, m :: s2.c.m⟩, s2.s, s2.h⟩
def aftS (E : Env) (ρ : Option Nat) (l : Nat) (K : Exit → St → Prop) (s : St) : Prop :=
  match find s.h l with
  | some (.loop tm n ps a b .ready none) => K .normal (s.setB l (.loop tm n ps a b .exhausted none))
  | some (.loop tm n ps a b .done none) => K .normal (s.setB l (.loop tm n ps a b .exhausted none))
  | some (.loop tm n ps a b .done (some c)) => VC E ρ c (s.setB l (.loop tm n ps a b .exhausted (some c))) K
  | _ => False
theorem Sim.repin (S : Sim Γ st a as β w) (pin' : Nat → Nat) (h : ∀ l tm n ps a b s p, find st.h l = some (.loop tm n ps a b s p) → s = .exhausted ∨ pin' l = Γ.pin l) : Sim { Γ with pin := pin' } st a as β w := by
  refine ⟨S.below, S.hJ, S.glob, S.apart, S.cur, S.stk, fun l B hB => ?_⟩
  have hk := S.heap l B hB
  cases B with
  | loop tm n ps assign body state pend =>
    obtain ⟨b, c, sz, r, hb, hge, hh, e1, e2, e3, e4, e5, e6, e7, ht⟩ := hk
    refine ⟨b, c, sz, r, hb, hge, hh, e1, e2, e3, e4, e5, e6, ?_, ht⟩
    rcases h l _ _ _ _ _ _ _ hB with e | e
    · exact .inl e
    · rcases e7 with e7 | e7
      · exact .inl e7
      · exact .inr (e7.trans e.symm)
  | cells cs fz => exact hk
  | arr e sz xs fz => exact hk
  | defer => exact hk
theorem Sim.ranged (S : Sim Γ st a as β w) (m l : Nat) (ps : Array Tmp) (assign body : Code) (fn : FuncId) (hml : m ≠ l) (hm : st.noMark m) (hl : (st.add m .defer).noMark l) (hpin : Γ.pin l = w.heap.size + 1) :
    ∃ β', β' l = .blk (w.heap.size + 1) 1 1 ∧ Sim Γ (st.ranged m l ps.toList assign body) { a with defers := [{ target := .collected w.heap.size, args := #[] }] ++ a.defers } as β'
      ((w.alloc (.deferred (some []))).alloc (.loop { state := .ready, pending := none, fn, tmps := a.tmps, params := ps, assign, body, defers := w.heap.size })) := by
  have S1 := S.alloc m .defer (.deferred (some [])) 1 1 hm ⟨w.heap.size, 1, 1, upd_same _ _ _, S.below.size, World.alloc_heap_new w _⟩
  have hsz : (w.alloc (.deferred (some []))).heap.size = w.heap.size + 1 := World.size_alloc _ _
  have S2 := S1.alloc l (.loop (Tm.erase l (st.add m .defer).c.t) (st.add m .defer).c.n ps.toList assign body .ready none)
    (.loop { state := .ready, pending := none, fn, tmps := a.tmps, params := ps, assign, body, defers := w.heap.size }) 1 1 hl ?_
  · refine ⟨_, ?_, S2.below, S2.hJ, S2.glob, S2.apart, ⟨S2.cur.1, S2.cur.2.1, ?_⟩, S2.stk, S2.heap⟩
    · rw [upd_same, hsz]
    · show _ = List.map _ (m :: _)
      rw [List.map_cons, List.singleton_append]
      exact congr (congrArg List.cons (by rw [upd_ne m hml, upd_same])) S2.cur.2.2
  · have K := Im.alloc S1 l (.loop (Tm.erase l (st.add m .defer).c.t) (st.add m .defer).c.n ps.toList assign body .ready none)
      (.loop { state := .ready, pending := none, fn, tmps := a.tmps, params := ps, assign, body, defers := w.heap.size }) 1 1
    have hF := (S1.cur.keeps K).erase (β' := upd (upd β m (.blk w.heap.size 1 1)) l (.blk (w.alloc (.deferred (some []))).heap.size 1 1)) (upd_ne) hl.1
    exact ⟨_, 1, 1, _, upd_same _ _ _, by rw [hsz]; have := S.below.size; omega, World.alloc_heap_new _ _, rfl, rfl, rfl, rfl, rfl, hF.1, .inr (by rw [hsz]; exact hpin.symm), hF.2.1⟩
theorem aftS_ok {Q : Exit → St → Prop} {ρ : Option Nat} {E : Env} {l : Nat} {pin0 : Nat → Nat} (hE : Γ.toEnv = E) (S : Sim Γ st a as β w) (hpin : ∀ k, k ≠ l → pin0 k = Γ.pin k) (h : aftS E ρ l Q st) :
    ∃ jump w4, (Instr.endLoop (Γ.pin l)).run Γ.P w = .ok jump w4 ∧
      match jump with
      | none => ∃ st' β', Sim { Γ with pin := pin0 } st' a as β' w4 ∧ Q .normal st'
      | some c => c.wpIn (Fw (ρ.map pin0)) 0 Γ.P (fun e a w => ∃ st' β', Sim { Γ with pin := pin0 } st' a as β' w ∧ Q e st') a w4 := by
  have key : ∀ {tm n ps a' b' s0 p0}, find st.h l = some (.loop tm n ps a' b' s0 p0) → s0 ≠ .exhausted → s0 ≠ .busy → ∃ w4, (Instr.endLoop (Γ.pin l)).run Γ.P w = .ok p0 w4 ∧ Sim { Γ with pin := pin0 } (st.setB l (.loop tm n ps a' b' .exhausted p0)) a as β w4 := by
    intro tm n ps a' b' s0 p0 hf hne hnb
    obtain ⟨b2, c2, sz2, r, hb2, hh, e1, e2, e3, e4, e5, e6, hp, _, ht⟩ := S.loopTurn hf
    obtain rfl : b2 = Γ.pin l := hp.resolve_left hne
    have := ht .exhausted p0 (.inl rfl)
    subst e5
    refine ⟨_, run_endLoop hh (by rw [e4]; exact hnb), this.repin pin0 fun k tm n ps a b s p hk => ?_⟩
    by_cases ek : k = l
    · subst ek
      simp only [St.setB, find_hSet, if_pos, hf, Option.map_some, Option.some.injEq] at hk
      injection hk with _ _ _ _ _ h6
      exact .inl h6.symm
    · exact .inr (hpin k ek)
  unfold aftS at h
  split at h
  · rename_i hf
    obtain ⟨w4, h1, h2⟩ := key hf (by simp) (by simp)
    exact ⟨_, w4, h1, _, β, h2, h⟩
  · rename_i hf
    obtain ⟨w4, h1, h2⟩ := key hf (by simp) (by simp)
    exact ⟨_, w4, h1, _, β, h2, h⟩
  · rename_i c hf
    obtain ⟨w4, h1, h2⟩ := key hf (by simp) (by simp)
    subst hE
    exact ⟨_, w4, h1, h { Γ with pin := pin0 } a as β w4 rfl h2⟩
  · exact h.elim
theorem VC.range {E : Env} {K : Exit → St → Prop} {g : Operand} {ps : Array Tmp} {assign body : Code} {f : Nat} {ys : List D} (m l : Nat) (hml : m ≠ l) (hm : st.noMark m) (hl : (st.add m .defer).noMark l) (hfr : find st.h l = none)
    (hg : evO E (st.ranged m l ps.toList assign body) g = .fn (.func f) [] ys) (hc : callable E.P f = true)
    (h : VCcall E f (.yld l :: ys) (st.ranged m l ps.toList assign body) (fun _ s => aftS E none l K s)) : VC E none (.rangeFunc g ps assign body) st K := by
  intro Γ a as β w hΓ S
  subst hΓ
  refine wpIn_rangeFunc ?_
  intro fn hfn
  have S' : Sim { Γ with pin := fun k => if k = l then w.heap.size + 1 else Γ.pin k } st a as β w := S.repin _ fun k tm n ps a b s p hk => .inr (by
    show (if k = l then _ else _) = _
    rw [if_neg]
    rintro rfl
    rw [hfr] at hk; cases hk)
  obtain ⟨β', hβ, S2⟩ := S'.ranged m l ps assign body fn hml hm hl (if_pos rfl)
  obtain ⟨W, hW⟩ : ∃ W, (w.alloc (.deferred (some []))).alloc (.loop { state := .ready, pending := none, fn, tmps := a.tmps, params := ps, assign, body, defers := w.heap.size }) = W := ⟨_, rfl⟩
  have hent := run_enterLoop_outer (P := Γ.P) (w := w) fn a.tmps ps assign body
  rw [hW] at hent S2
  have hv := S2.eval g
  rw [show evO ({ Γ with pin := fun k => if k = l then w.heap.size + 1 else Γ.pin k } : Ctx).toEnv (st.ranged m l ps.toList assign body) g = .fn (.func f) [] ys from hg] at hv
  simp only [RVD] at hv
  obtain ⟨vs, us, hv, hvs, hus⟩ := hv
  have hvs : vs = #[] := by
    simp only [RVDs] at hvs
    apply Array.ext'; simpa using hvs
  subst hvs
  have hv' : a.eval g = .func (.func f) #[] us := hv
  refine ⟨w.heap.size + 1, [{ target := .collected w.heap.size, args := #[] }], W, { target := .fn (.func f) us, args := #[.func (.yield (w.heap.size + 1)) #[] #[]] }, W, f,
    #[.func (.yield (w.heap.size + 1)) #[] #[]] ++ us, W, hent, ?_, fun _ _ => trivial, ?_, fun e => by simp [Fw, Fence.wide] at e, ?_⟩
  · simp only [resolve, hv']
    simp [go_sem]
  · simp [invoke, go_sem, callable_ok hc]
  · have := h { Γ with pin := fun k => if k = l then w.heap.size + 1 else Γ.pin k } _ as β' _ (#[.func (.yield (w.heap.size + 1)) #[] #[]] ++ us) rfl S2 ?_
    · refine this.mono ?_
      rintro e w3 ⟨v, d, s3, β3, rfl, S3, -, k⟩
      obtain ⟨jump, w4, h1, h2⟩ := aftS_ok (Γ := { Γ with pin := fun k => if k = l then w.heap.size + 1 else Γ.pin k }) (pin0 := Γ.pin) (E := Γ.toEnv) rfl S3 (fun k hk => (if_neg hk).symm) k
      refine ⟨jump, w4, ?_, ?_⟩
      · have e : ({ Γ with pin := fun k => if k = l then w.heap.size + 1 else Γ.pin k } : Ctx).pin l = w.heap.size + 1 := if_pos rfl
        rw [e] at h1
        exact h1
      · cases jump with
        | none => exact h2
        | some c => exact h2
    · simp only [Array.toList_append, List.singleton_append, RVDs, RVD]
      exact ⟨_, _, rfl, ⟨_, _, _, hβ, rfl⟩, hus⟩
end
end Go.Proofs.YtfbodageccednaaDoor.Vm
namespace Go.Proofs.YtfbodageccednaaDoor.Vm
open Go Go.RowKit
/-! ### Scopes; rules that leave the code of a loop alone -/
section
variable {P : Program} {b : Frame} {a : Act} {k : List Item} {cs : List Frame} {w : World} {Q : Exit → Act → World → Prop} {F : Fence} {n : Nat}
theorem stepR_scope' {c : Code} : step P (lone (b.atR a (.code (.scope c) :: k)) cs w) = .next (lone (b.atR a (.code c :: .inScope c :: k)) cs w) :=
  step_lone_go (by simp [stepG, stepG.exec, Frame.atR])
theorem stepR_inScope' {c : Code} : step P (lone (b.atR a (.inScope c :: k)) cs w) = .next (lone (b.atR a k) cs w) :=
  step_lone_go (by simp [stepG, stepG.exec, Frame.atR])
theorem wpIn_scope_plain {c : Code} (h : c.wpIn F n P (fun e a w => match e with | .goto _ => False | e => Q e a w) a w) : (Code.scope c).wpIn F n P Q a w := by
  intro b k cs hro hb hr
  have h0 : (lone (b.atR a (.code (.scope c) :: k)) cs w).fenced P F := fenced_calm hb hr rfl
  obtain ⟨e, a₁, w₁, hq, harr⟩ := h b (.inScope c :: k) cs hro hb hr
  cases e with
  | normal => exact ⟨.normal, a₁, w₁, hq, .head h0 stepR_scope' (StepsIn.trans harr (.one (fenced_calm hb hr rfl) stepR_inScope'))⟩
  | exit id' =>
    have hx : exitTo id' (.inScope c :: k) = exitTo id' k := by simp [exitTo]
    exact ⟨.exit id', a₁, w₁, hq, fun k' hk => .head h0 stepR_scope' (harr.1 k' (by rw [hx]; exact hk)),
        fun hr' hk => let ⟨k₁, h1, h2⟩ := harr.2 hr' (by rw [hx]; exact hk); ⟨k₁, h1, .head h0 stepR_scope' h2⟩⟩
  | goto l => exact hq.elim
  | ret => exact ⟨_, a₁, w₁, hq, .of_steps (.one h0 stepR_scope') harr⟩
  | panic ch => exact ⟨_, a₁, w₁, hq, .of_steps (.one h0 stepR_scope') harr⟩
  | outgrown => exact ⟨_, a₁, w₁, hq, .of_steps (.one h0 stepR_scope') harr⟩
end
section
variable {E : Env} {ρ : Option Nat} {st : St} {K : Exit → St → Prop}
def scopeK (K : Exit → St → Prop) : Exit → St → Prop
  | .goto _, _ => False
  | e, s => K e s
theorem VC.scope {c : Code} (h : VC E ρ c st (scopeK K)) : VC E ρ (.scope c) st K := fun Γ a as β w hΓ S => by
  refine wpIn_scope_plain (wpIn_mono (h Γ a as β w hΓ S) ?_)
  rintro e a' w' ⟨st', β', S', k⟩
  cases e with
  | goto l => exact k.elim
  | _ => exact ⟨st', β', S', k⟩
theorem scopeK_n {s : St} (h : K .normal s) : scopeK K .normal s := h
theorem scopeK_e {id : Nat} {s : St} (h : K (.exit id) s) : scopeK K (.exit id) s := h
theorem scopeK_r {s : St} (h : K .ret s) : scopeK K .ret s := h
theorem VC.code {c c' : Code} (hc : c' = c) (h : VC E ρ c st K) : VC E ρ c' st K := hc ▸ h
theorem VC.rangeO {g : Operand} {ps : Array Tmp} {assign body : Code} {f : Nat} {ys : List D} (m l : Nat) (hml : m ≠ l) (hm : st.noMark m) (hl : (st.add m .defer).noMark l) (hfr : find st.h l = none)
    (hc : callable E.P f = true) (hg : ∀ A B, evO E (st.ranged m l ps.toList A B) g = .fn (.func f) [] ys)
    (h : ∀ A B, A = assign → B = body → VCcall E f (.yld l :: ys) (st.ranged m l ps.toList A B) (fun _ s => aftS E none l K s)) : VC E none (.rangeFunc g ps assign body) st K :=
  VC.range m l hml hm hl hfr (hg _ _) hc (h _ _ rfl rfl)
end
theorem pureK_r {P : Program} {rs : List ResultVar} {res : List Data} {s : St} (h : pureS P rs res s) : pureK P rs res .ret s := h
attribute [go_sem] putAll St.round begS begK endS endK St.ranged Option.isNone_some Option.isNone_none
end Go.Proofs.YtfbodageccednaaDoor.Vm
namespace Go.Proofs.YtfbodageccednaaDoor.Vm
open Go Go.RowKit
/-! ### What one state tells, another tells: by look -/
theorem find_mem {h : List (Nat × Blk)} {l : Nat} {B : Blk} (hf : find h l = some B) : (l, B) ∈ h := by
  induction h with
  | nil => cases hf
  | cons x r ih =>
    simp only [find] at hf
    by_cases e : x.1 = l
    · rw [if_pos e] at hf
      injection hf with hf
      subst e hf
      simp
    · rw [if_neg e] at hf
      simp [ih hf]
theorem Ent.to {s : St} {n : Nat} {tm : Tm} {m : List Nat} {fs : List Fr} {h : List (Nat × Blk)} (hn : s.c.n = n) (hm : s.c.m = m) (hs : s.s = fs) (ht : ∀ x ∈ tm, look s.c.t x.1 = x.2) (hh : ∀ x ∈ h, find s.h x.1 = some x.2) : Ent s ⟨⟨n, tm, m⟩, fs, h⟩ :=
  (Ent.into (h := s.h) ht hn hm hs rfl).trans (Ent.fewer fun l B hB => hh (l, B) (find_mem hB))
/-- A nil slice in a temporary: an empty row that lies nowhere. -/
theorem Ent.nilT {s : St} (t l e sz : Nat) (hsz : 0 < sz) (hm : s.noMark l) (ht : look s.c.t t = .nilsl) : Ent s ((s.add l (.arr e sz [] 0)).put t (.sl l 0 0)) := fun Γ a as β w S => by
  have S' := S.nilin l e sz hsz hm
  refine ⟨_, S'.know ?_⟩
  have := S.get t
  rw [ht] at this
  simp only [RVD] at this
  obtain ⟨a', h'⟩ := this
  rw [h']
  exact RVD.nilrow (upd_same _ _ _) a'
theorem Ent.put {s : St} {t : Nat} {d : D} (h : look s.c.t t = d) : Ent s (s.put t d) := fun Γ a as β w S => ⟨β, S.know (by rw [← h]; exact S.get t)⟩
theorem runA_id {E : Env} {Φ : Fns} {t : Nat} {l : List SO} {s : St} {K : St → Prop} {r : QA} (h : runA E Φ t l s K r) : runA E Φ t l s K r := h
theorem goA_id {E : Env} {Φ : Fns} {dst : Option Nat} {l : List SO} {st : St} {K : St → Prop} {r : Ans} (h : goA E Φ dst l st K r) : goA E Φ dst l st K r := h
attribute [go_sem] List.mem_cons forall_eq_or_imp
end Go.Proofs.YtfbodageccednaaDoor.Vm
namespace Go.Proofs.YtfbodageccednaaDoor.Vm
open Go Go.RowKit
/-! ### Contracts over readings; lists of numbers, of bytes -/
/-- A contract over things that the data read as, one by one. -/
noncomputable def PFn.of {α : Type} (A : α → List Data) (pre : α → Prop) (res : α → List Data) : PFn :=
  ⟨fun ds => ∃ x, ds = A x ∧ pre x, fun ds => by classical exact if h : ∃ x, ds = A x then res (Classical.choose h) else []⟩
theorem PFn.of_pre {α : Type} {A : α → List Data} {pre : α → Prop} {res : α → List Data} (hA : ∀ x y, A x = A y → x = y) (x : α) : (PFn.of A pre res).pre (A x) = pre x :=
  propext ⟨fun ⟨y, e, h⟩ => hA x y e ▸ h, fun h => ⟨x, rfl, h⟩⟩
theorem PFn.of_res {α : Type} {A : α → List Data} {pre : α → Prop} {res : α → List Data} (hA : ∀ x y, A x = A y → x = y) (x : α) : (PFn.of A pre res).res (A x) = res x := by
  classical
  have h : ∃ y, A x = A y := ⟨x, rfl⟩
  unfold PFn.of
  simp only []
  rw [dif_pos h]
  exact congrArg res (hA _ _ (Classical.choose_spec h)).symm
/-- A list of numbers of 64 bits. -/
def numsD (l : List Nat) : List (List Data) := l.map fun n : Nat => [.int .u64 (n : Int)]
theorem numsD_inj {l m : List Nat} : numsD l = numsD m ↔ l = m := by
  constructor
  · intro h
    have : ∀ (l m : List Nat), numsD l = numsD m → l = m := by
      intro l
      induction l with
      | nil => intro m h; cases m with | nil => rfl | cons => simp [numsD] at h
      | cons a l ih =>
        intro m h
        cases m with
        | nil => simp [numsD] at h
        | cons b m =>
          simp only [numsD, List.map_cons, List.cons.injEq, Data.int.injEq, true_and, and_true, Int.natCast_inj] at h
          rw [h.1, ih m h.2]
    exact this l m h
  · rintro rfl; rfl
theorem bytesD_inj {l m : List UInt8} : bytesD l = bytesD m ↔ l = m := by
  constructor
  · intro h
    have := congrArg u8s h
    rw [u8s_bytesD, u8s_bytesD] at this
    exact Option.some.inj this
  · rintro rfl; rfl
theorem numsD_len (l : List Nat) : (numsD l).length = l.length := by simp [numsD]
theorem bytesD_len (l : List UInt8) : (bytesD l).length = l.length := by simp [bytesD]
theorem numsD_at {l : List Nat} {k : Nat} (h : k < l.length) : (numsD l).getD k [] = [.int .u64 ((l.getD k 0 : Nat) : Int)] := by
  simp [numsD, List.getD_eq_getElem?_getD, List.getElem?_map, List.getElem?_eq_getElem h]
theorem bytesD_at {l : List UInt8} {k : Nat} (h : k < l.length) : (bytesD l).getD k [] = [.int .u8 ((l.getD k 0).toNat : Int)] := by
  simp [bytesD, List.getD_eq_getElem?_getD, List.getElem?_map, List.getElem?_eq_getElem h]
theorem numsD_take (l : List Nat) (n : Nat) : (numsD l).take n = numsD (l.take n) := by simp [numsD, List.map_take]
theorem numsD_drop (l : List Nat) (n : Nat) : (numsD l).drop n = numsD (l.drop n) := by simp [numsD, List.map_drop]
theorem bytesD_take (l : List UInt8) (n : Nat) : (bytesD l).take n = bytesD (l.take n) := by simp [bytesD, List.map_take]
theorem bytesD_drop (l : List UInt8) (n : Nat) : (bytesD l).drop n = bytesD (l.drop n) := by simp [bytesD, List.map_drop]
theorem numsD_one (l : List Nat) : (∀ x ∈ numsD l, x.length = 1) = True := by simp [numsD]
theorem bytesD_one (l : List UInt8) : (∀ x ∈ bytesD l, x.length = 1) = True := by simp [bytesD]
theorem numsD_snoc (l : List Nat) (v : Nat) : numsD l ++ [[.int .u64 (v : Int)]] = numsD (l ++ [v]) := by simp [numsD]
theorem bytesD_snoc (l : List UInt8) (v : UInt8) : bytesD l ++ [[.int .u8 (v.toNat : Int)]] = bytesD (l ++ [v]) := by simp [bytesD]
theorem numsD_append (l m : List Nat) : numsD l ++ numsD m = numsD (l ++ m) := by simp [numsD]
theorem bytesD_append (l m : List UInt8) : bytesD l ++ bytesD m = bytesD (l ++ m) := by simp [bytesD]
attribute [go_sem] numsD_len bytesD_len numsD_take numsD_drop bytesD_take bytesD_drop numsD_one bytesD_one numsD_append bytesD_append u8s_bytesD
attribute [go_sem] Int.toNat_natCast Int.toNat_zero Int.toNat_one
end Go.Proofs.YtfbodageccednaaDoor.Vm
namespace Go.Proofs.YtfbodageccednaaDoor.Vm
open Go Go.RowKit
/-! ### A loop that ranges over functions leaves a mark at each pass: so many marks -/
def marks (k : Nat) : List Nat := (List.range k).reverse.map (100 + ·)
def marksH (k : Nat) : List (Nat × Blk) := (marks k).map fun l => (l, .defer)
theorem marks_succ (k : Nat) : marks (k + 1) = (100 + k) :: marks k := by
  simp [marks, List.range_succ]
theorem marksH_succ (k : Nat) : marksH (k + 1) = (100 + k, .defer) :: marksH k := by simp [marksH, marks_succ]
theorem marks_zero : marks 0 = [] := rfl
theorem marksH_zero : marksH 0 = [] := rfl
theorem marks_mem {k l : Nat} : l ∈ marks k ↔ 100 ≤ l ∧ l < 100 + k := by
  simp only [marks, List.mem_map, List.mem_reverse, List.mem_range]
  constructor
  · rintro ⟨a, h, rfl⟩; omega
  · intro h; exact ⟨l - 100, by omega, by omega⟩
theorem marks_lit {k l : Nat} (h : l < 100) : (l ∈ marks k) = False := by
  simp only [marks_mem, eq_iff_iff, iff_false]; omega
theorem marks_new {k : Nat} : (100 + k ∈ marks k) = False := by
  simp only [marks_mem, eq_iff_iff, iff_false]; omega
theorem marks_nodup (k : Nat) : (marks k).Nodup := by
  induction k with
  | zero => exact List.nodup_nil
  | succ k ih => rw [marks_succ]; exact List.nodup_cons.2 ⟨by rw [marks_new]; exact id, ih⟩
theorem find_marksH {k l : Nat} : find (marksH k) l = if 100 ≤ l ∧ l < 100 + k then some .defer else none := by
  induction k with
  | zero => rw [if_neg (by omega)]; rfl
  | succ k ih =>
    rw [marksH_succ]
    simp only [find, ih]
    by_cases e : 100 + k = l
    · rw [if_pos e, if_pos (by omega)]
    · rw [if_neg e]
      by_cases h : 100 ≤ l ∧ l < 100 + k
      · rw [if_pos h, if_pos (by omega)]
      · rw [if_neg h, if_neg (by omega)]
theorem find_marksH_lit {k l : Nat} (h : l < 100) : find (marksH k) l = none := by rw [find_marksH, if_neg (by omega)]
theorem find_marksH_new {k : Nat} : find (marksH k) (100 + k) = none := by rw [find_marksH, if_neg (by omega)]
theorem hErase_marksH {k l : Nat} (h : ¬ (100 ≤ l ∧ l < 100 + k)) : hErase l (marksH k) = marksH k := by
  induction k with
  | zero => rfl
  | succ k ih =>
    rw [marksH_succ]
    simp only [hErase]
    rw [if_neg (by omega), ih (by omega)]
    rfl
theorem hErase_marksH_lit {k l : Nat} (h : l < 100) : hErase l (marksH k) = marksH k := hErase_marksH (by omega)
theorem hErase_marksH_new {k : Nat} : hErase (100 + k) (marksH k) = marksH k := hErase_marksH (by omega)
theorem hSet_marksH_lit {k l : Nat} {B : Blk} (h : l < 100) : hSet l B (marksH k) = marksH k := by
  induction k with
  | zero => rfl
  | succ k ih =>
    rw [marksH_succ]
    simp only [hSet]
    rw [if_neg (by omega), ih]
theorem marksH_all {k : Nat} {h : List (Nat × Blk)} (hf : ∀ j, j < k → find h (100 + j) = some .defer) : ∀ x ∈ marksH k, find h x.1 = some x.2 := by
  intro x hx
  simp only [marksH, List.mem_map] at hx
  obtain ⟨l, hl, rfl⟩ := hx
  rw [marks_mem] at hl
  have := hf (l - 100) (by omega)
  rwa [show 100 + (l - 100) = l by omega] at this
theorem find_marksH_at {k j : Nat} (h : j < k) : find (marksH k) (100 + j) = some .defer := by rw [find_marksH, if_pos (by omega)]
theorem find_cons_ne {x : Nat × Blk} {r : List (Nat × Blk)} {l : Nat} (h : x.1 ≠ l) : find (x :: r) l = find r l := by simp only [find, if_neg h]
theorem lit_ne {a j : Nat} (h : a < 100) : (a = 100 + j) = False := by simp only [eq_iff_iff, iff_false]; omega
theorem lit_ne' {a j : Nat} (h : a < 100) : (100 + j = a) = False := by simp only [eq_iff_iff, iff_false]; omega
/-- What is left behind the marks. -/
theorem dropH_none (ms : List Nat) : ∀ (h : List (Nat × Blk)), (∀ x ∈ h, x.1 ∉ ms) → dropH ms h = h := by
  induction ms with
  | nil => intro h _; rfl
  | cons m ms ih =>
    intro h hh
    show dropH ms (h.filter _) = h
    have : h.filter (fun x => !(x.1 == m)) = h := List.filter_eq_self.2 fun x hx => by
      have := hh x hx
      simp at this ⊢
      exact this.1
    rw [this]
    exact ih h fun x hx => by have := hh x hx; simp at this; exact this.2
theorem dropH_marks (k : Nat) (h : List (Nat × Blk)) (hh : ∀ x ∈ h, x.1 < 100) : dropH (marks k) (h ++ marksH k) = h := by
  induction k with
  | zero => simp [marks_zero, marksH_zero, dropH]
  | succ k ih =>
    rw [marks_succ, marksH_succ]
    show dropH (marks k) ((h ++ _).filter _) = h
    rw [List.filter_append, List.filter_cons]
    have h1 : h.filter (fun x => !(x.1 == 100 + k)) = h := List.filter_eq_self.2 fun x hx => by
      have := hh x hx
      simp; omega
    have h2 : (marksH k).filter (fun x => !(x.1 == 100 + k)) = marksH k := List.filter_eq_self.2 fun x hx => by
      simp only [marksH, List.mem_map] at hx
      obtain ⟨l, hl, rfl⟩ := hx
      rw [marks_mem] at hl
      simp; omega
    rw [h1, h2]
    simpa using ih
theorem defers_all {k : Nat} {h : List (Nat × Blk)} (hh : ∀ x ∈ h, x.1 < 100) : ∀ l ∈ marks k, find (h ++ marksH k) l = some .defer := by
  intro l hl
  rw [marks_mem] at hl
  have : ∀ (h : List (Nat × Blk)), (∀ x ∈ h, x.1 < 100) → find (h ++ marksH k) l = find (marksH k) l := by
    intro h
    induction h with
    | nil => intro _; rfl
    | cons x r ih =>
      intro hh
      rw [List.cons_append, find_cons_ne (by have := hh x (by simp); omega)]
      exact ih fun y hy => hh y (by simp [hy])
  rw [this h hh, find_marksH, if_pos (by omega)]
/-- The state over another one: these temporaries, marks, blocks. -/
def St.overM (st : St) (ts : List Nat) (f : Tm) (m : List Nat) (h : List (Nat × Blk)) : St := ⟨⟨st.c.n, f ++ keepT ts st.c.t, m⟩, st.s, h⟩
theorem VC.loopM {E : Env} {ρ : Option Nat} {st : St} {K : Exit → St → Prop} {ι : Type} {c : Code} (ts : List Nat) (f : ι → Tm) (m : ι → List Nat) (h : ι → List (Nat × Blk)) (p : ι → Prop) (μ : ι → Nat) (i0 : ι) (hp : p i0)
    (h0 : Ent st (st.overM ts (f i0) (m i0) (h i0))) (step : ∀ i, p i → VC E ρ c (st.overM ts (f i) (m i) (h i)) (thenK (fun s => ∃ j, p j ∧ Ent s (st.overM ts (f j) (m j) (h j)) ∧ μ j < μ i) K)) : VC E ρ (.loop c) st K :=
  VC.loop (fun i => st.overM ts (f i) (m i) (h i)) p μ i0 hp h0 step
/-- Blocks turned. -/
def hSets : List (Nat × Blk) → List (Nat × Blk) → List (Nat × Blk)
  | [], h => h
  | x :: r, h => hSets r (hSet x.1 x.2 h)
theorem VC.loopS {E : Env} {ρ : Option Nat} {st : St} {K : Exit → St → Prop} {ι : Type} {c : Code} (ts : List Nat) (f : ι → Tm) (g : ι → List (Nat × Blk)) (p : ι → Prop) (μ : ι → Nat) (i0 : ι) (hp : p i0)
    (h0 : Ent st (st.over ts (f i0) (hSets (g i0) st.h))) (step : ∀ i, p i → VC E ρ c (st.over ts (f i) (hSets (g i) st.h)) (thenK (fun s => ∃ j, p j ∧ Ent s (st.over ts (f j) (hSets (g j) st.h)) ∧ μ j < μ i) K)) : VC E ρ (.loop c) st K :=
  VC.loop (fun i => st.over ts (f i) (hSets (g i) st.h)) p μ i0 hp h0 step
theorem aftS_n {E : Env} {ρ : Option Nat} {l : Nat} {K : Exit → St → Prop} {s : St} {tm : Tm} {n : Nat} {ps : List Tmp} {a b : Code} (hf : find s.h l = some (.loop tm n ps a b .ready none)) (h : K .normal (s.setB l (.loop tm n ps a b .exhausted none))) : aftS E ρ l K s := by
  unfold aftS
  rw [hf]
  exact h
attribute [go_sem] lit_ne lit_ne' find_marksH_lit hErase_marksH_lit hSet_marksH_lit marks_lit St.overM hSets Rest find_marksH_new hErase_marksH_new marks_new
end Go.Proofs.YtfbodageccednaaDoor.Vm
namespace Go.Proofs.YtfbodageccednaaDoor.Vm
open Go Go.RowKit
theorem RVDs.setAt {w : World} {I : Cset} {β : Nat → Pl} : ∀ {ds : List D} {vs : List Value} (i : Nat) {d : D}, RVDs w I β ds vs → (∀ v, vs[i]? = some v → RVD w I β d v) → RVDs w I β (ds.set i d) vs
  | [], vs, i, d, h, _ => h
  | x :: ds, vs, 0, d, h, hd => by
    simp only [RVDs, List.set_cons_zero] at h ⊢
    obtain ⟨v, r, rfl, h1, h2⟩ := h
    exact ⟨v, r, rfl, hd v rfl, h2⟩
  | x :: ds, vs, i + 1, d, h, hd => by
    simp only [RVDs, List.set_cons_succ] at h ⊢
    obtain ⟨v, r, rfl, h1, h2⟩ := h
    exact ⟨v, r, rfl, h1, RVDs.setAt i h2 fun u hu => hd u (by simpa using hu)⟩
/-- A nil slice in a cell: an empty row that lies nowhere. -/
theorem Ent.nilC {s : St} (l0 i l e sz : Nat) {cs : List D} {fz : Bool} (hsz : 0 < sz) (hm : s.noMark l) (hl : l0 ≠ l) (hf : find s.h l0 = some (.cells cs fz)) (hi : cs[i]? = some .nilsl) :
    Ent s ((s.add l (.arr e sz [] 0)).setB l0 (.cells ((D.erases l cs).set i (.sl l 0 0)) fz)) := fun Γ a as β w S => by
  have S' := S.nilin l e sz hsz hm
  have hf' : find (s.add l (.arr e sz [] 0)).h l0 = some (.cells (D.erases l cs) fz) := by
    simp only [St.add, find_cons, find_hErase]
    rw [if_neg (Ne.symm hl), if_neg hl, hf]
    rfl
  refine ⟨_, S'.turn hf' S'.below (Nat.le_refl _) (fun _ _ _ => rfl) (fun b o h => h) (fun _ _ _ _ _ _ _ _ => rfl) fun K => ?_⟩
  obtain ⟨b, c, sz', cur, e', hb, hge, hh, hc⟩ := S'.heap l0 _ hf'
  refine ⟨b, c, sz', cur, e', hb, hge, hh, RVDs.setAt i (RVDs.keeps K _ _ hc) fun v hv => ?_⟩
  obtain ⟨b2, c2, sz2, cur2, e2, hb2, _, hh2, hc2⟩ := S.heap l0 _ hf
  rw [upd_ne l0 hl, hb2] at hb
  injection hb with h1 h2 h3
  subst h1
  rw [hh2] at hh
  injection hh with hh
  injection hh with h4 h5
  subst h4
  obtain ⟨u, hu, hr⟩ := hc2.at i _ hi
  rw [hv] at hu
  injection hu with hu
  subst hu
  simp only [RVD] at hr
  obtain ⟨a', rfl⟩ := hr
  exact RVD.nilrow (upd_same _ _ _) a'
def pureR (P : Program) (rs : List ResultVar) (res : List Data) (s : St) : Prop :=
  match resD P s rs with
  | some ds => match frzs s ds with
    | some (xs, _) => xs = res
    | none => False
  | none => False
theorem pureS_intro {P : Program} {rs : List ResultVar} {res : List Data} {s : St} {h' : List (Nat × Blk)} (h1 : ∀ l ∈ s.c.m, find s.h l = some .defer) (h2 : s.c.m.Nodup) (h3 : dropH s.c.m s.h = h') (h4 : pureR P rs res ⟨s.c, s.s, h'⟩) : pureS P rs res s :=
  ⟨h1, h2, by rw [h3]; exact h4⟩
theorem pureS_marks {P : Program} {rs : List ResultVar} {res : List Data} {n k : Nat} {tm : Tm} {s : List Fr} {h h' : List (Nat × Blk)} (he : h' = h ++ marksH k) (hh : ∀ x ∈ h, x.1 < 100) (h4 : pureR P rs res ⟨⟨n, tm, marks k⟩, s, h⟩) : pureS P rs res ⟨⟨n, tm, marks k⟩, s, h'⟩ := by
  subst he
  exact pureS_intro (defers_all hh) (marks_nodup k) (dropH_marks k h hh) h4
theorem all_cons {α : Type} {p : α → Prop} {a : α} {l : List α} (h1 : p a) (h2 : ∀ x ∈ l, p x) : ∀ x ∈ a :: l, p x := fun x hx => by
  rcases List.mem_cons.1 hx with rfl | hx
  · exact h1
  · exact h2 x hx
theorem all_at {α : Type} {p : α → Prop} {l l' : List α} (h : l = l') (hv : ∀ x ∈ l', p x) : ∀ x ∈ l, p x := h ▸ hv
theorem all_nil {α : Type} {p : α → Prop} : ∀ x ∈ ([] : List α), p x := fun x hx => by cases hx
theorem marks_tail {k : Nat} {h : List (Nat × Blk)} (r : List (Nat × Blk)) (hr : h = r ++ marksH k) (hh : ∀ x ∈ r, x.1 < 100 ∨ 100 + k ≤ x.1) : ∀ x ∈ marksH k, find h x.1 = some x.2 := by
  refine marksH_all fun j hj => ?_
  subst hr
  induction r with
  | nil => exact find_marksH_at hj
  | cons x r ih =>
    rw [List.cons_append, find_cons_ne]
    · exact ih fun y hy => hh y (by simp [hy])
    · have := hh x (by simp); omega
attribute [go_sem] Int.sub_zero forall_eq or_self or_false false_or List.range_zero List.getD_cons_zero List.getD_cons_succ List.getD_nil pureR Nat.zero_add Nat.add_zero Nat.le_refl List.take_length
end Go.Proofs.YtfbodageccednaaDoor.Vm
namespace Go.Proofs.YtfbodageccednaaDoor.Vm
open Go Go.RowKit
theorem setCell_at {w : World} {b o : Nat} {v : Value} {cur : Array Value} {e : TypeId} {fr : Nat × Nat} (h : w.heap[b]? = some (.cells cur e fr)) :
    (w.setCell ⟨b, o, none⟩ v).heap[b]? = some (.cells (cur.setIfInBounds o v) e fr) := by
  obtain ⟨f1, f2⟩ := fr
  simp [World.setCell, Array.getElem?_modify, h]
theorem setCell_other {w : World} {b o k : Nat} {v : Value} (h : k ≠ b) : (w.setCell ⟨b, o, none⟩ v).heap[k]? = w.heap[k]? := by
  simp [World.setCell, Array.getElem?_modify, Ne.symm h]
theorem setCell_size {w : World} {a : Addr} {v : Value} : (w.setCell a v).heap.size = w.heap.size := by simp [World.setCell]
theorem setCells_at {b : Nat} {e : TypeId} {fr : Nat × Nat} : ∀ (vs : List Value) (o : Nat) (w : World) (cur : Array Value), w.heap[b]? = some (.cells cur e fr) → o + vs.length ≤ cur.size →
    ∃ cur', (w.setCells b o vs).heap[b]? = some (.cells cur' e fr) ∧ cur'.size = cur.size ∧ (∀ j, j < vs.length → cur'[o + j]? = vs[j]?) ∧ (∀ j, j < o ∨ o + vs.length ≤ j → cur'[j]? = cur[j]?)
  | [], o, w, cur, h, _ => ⟨cur, h, rfl, fun j hj => absurd hj (Nat.not_lt_zero _), fun _ _ => rfl⟩
  | v :: r, o, w, cur, h, hl => by
    simp only [List.length_cons] at hl
    obtain ⟨cur', h1, h2, h3, h4⟩ := setCells_at r (o + 1) _ _ (setCell_at (o := o) (v := v) h) (by rw [Array.size_setIfInBounds]; omega)
    refine ⟨cur', h1, by simpa using h2, fun j hj => ?_, fun j hj => ?_⟩
    · cases j with
      | zero =>
        rw [h4 (o + 0) (by omega), Array.getElem?_setIfInBounds]
        simp only [Nat.add_zero, if_true, List.getElem?_cons_zero]
        rw [if_pos (by omega)]
      | succ j =>
        have := h3 j (by simpa using hj)
        rw [show o + (j + 1) = o + 1 + j by omega, this]
        rfl
    · simp only [List.length_cons] at hj
      rw [h4 j (by omega)]
      rw [Array.getElem?_setIfInBounds_ne (by omega)]
theorem setCells_size {b : Nat} : ∀ (vs : List Value) (o : Nat) (w : World), (w.setCells b o vs).heap.size = w.heap.size
  | [], _, _ => rfl
  | v :: r, o, w => by rw [World.setCells, setCells_size r, setCell_size]
theorem setCells_other {b k : Nat} (hk : k ≠ b) : ∀ (vs : List Value) (o : Nat) (w : World), (w.setCells b o vs).heap[k]? = w.heap[k]?
  | [], _, _ => rfl
  | v :: r, o, w => by rw [World.setCells, setCells_other hk r, setCell_other hk]
theorem setCells_below {B b : Nat} {a : World} (hb : B ≤ b) : ∀ (vs : List Value) (o : Nat) (w : World), Below B a w → Below B a (w.setCells b o vs)
  | [], _, _, h => h
  | v :: r, o, w, h => by
    rw [World.setCells]
    exact setCells_below hb r (o + 1) _ (h.setCell (p := ⟨b, o, none⟩) hb v)
section
variable {Γ : Ctx} {st : St} {a : Act} {as : List Act} {β : Nat → Pl} {w : World}
/-- A row's cells turned, in their place. -/
theorem Sim.refill (S : Sim Γ st a as β w) {l b cap sz e : Nat} {xs xs' : List (List Data)} {w' : World} {cur' : Array Value} (hf : find st.h l = some (.arr e sz xs 0)) (hb : β l = .blk b cap sz) (hbelow : Below Γ.w0.heap.size Γ.w0 w') (hsize : w'.heap.size = w.heap.size)
    (hother : ∀ k, k ≠ b → w'.heap[k]? = w.heap[k]?) (hh' : w'.heap[b]? = some (.cells cur' e (0, 0))) (hcs : cur'.size = cap * sz) (hlen : xs'.length ≤ cap) (hx : ∀ x ∈ xs', x.length = sz)
    (hd : ∀ (j : Nat) (d : Data), xs'.flatten[j]? = some d → d.one = true ∧ ∃ v, cur'[j]? = some v ∧ RV w (Im Γ β st.h w) d v) : Sim Γ (st.setB l (.arr e sz xs' 0)) a as β w' := by
  obtain ⟨p1, p2, p3, p4⟩ := S.heap l _ hf
  obtain ⟨hge, hm⟩ : Γ.w0.heap.size ≤ b ∧ cap ≤ maxLen := by
    rcases p4 with h | ⟨b2, cap2, cur, h, h1, h2, h3, h4, h5⟩
    · rw [hb] at h; cases h.1
    · rw [hb] at h; injection h with e1 e2 e3; subst e1 e2; exact ⟨h1, h4⟩
  have hne : ∀ b' o, Im Γ β st.h w b' o → b' ≠ b := by
    rintro b' o h rfl
    rcases h with h | ⟨_, _, h3⟩
    · have := S.hJ _ _ h; omega
    · exact h3 l _ hf ⟨cap, sz, hb, by omega⟩
  refine S.turn (w' := w') hf hbelow (by omega) (fun b' o h => cell_of_heap (hother b' (hne b' o h)) o) (fun b' o h => h) (fun k B2 b2 c2 sz2 hk hf2 hb2 => hother b2 ?_) fun K => ?_
  · rintro rfl
    exact hk (S.apart k l B2 _ _ _ _ _ _ hf2 hf hb2 hb)
  · exact ⟨p1, Nat.zero_le _, hx, .inr ⟨b, cap, cur', hb, hge, hh', hlen, hm, hcs, fun j d hj => ⟨(hd j d hj).1, (hd j d hj).2.imp fun v hv => ⟨hv.1, RV.keeps K d v hv.2⟩⟩⟩⟩
end
end Go.Proofs.YtfbodageccednaaDoor.Vm
namespace Go.Proofs.YtfbodageccednaaDoor.Vm
open Go Go.RowKit
/-! ### What a row's argument reads as -/
/-- All that is there. -/
def All (W : World) : Cset := fun b _ => b < W.heap.size
theorem RE_ints {W : World} {k : IntKind} {b : Nat} : ∀ (zs : List Int) (o : Nat), (∀ i, i < zs.length → W.cell? ⟨b, o + i, none⟩ = some (.int k (zs.getD i 0))) → RE W (All W) 1 (zs.map fun z => [.int k z]) b o
  | [], _, _ => by simp only [List.map_nil, RE]
  | z :: zs, o, h => by
    have h0 := h 0 (by simp)
    simp only [List.map_cons, RE, List.length_cons, List.length_nil, RC]
    refine ⟨trivial, ⟨⟨.int k z, by simpa using h0, ?_, rfl, by simp only [RV]⟩, trivial⟩, RE_ints zs (o + 1) fun i hi => ?_⟩
    · show b < W.heap.size
      unfold World.cell? at h0
      split at h0
      · rename_i hh; exact (Array.getElem?_eq_some_iff.1 hh).1
      · cases h0
    · have := h (i + 1) (by simpa using hi)
      rw [show o + 1 + i = o + (i + 1) by omega, this]
      simp
theorem open_row {H : Type} {enc : TypeId × Value → H} {P : Program} {W : World} {t e : TypeId} {k : IntKind} {v : Value} {d : DataW H} {p : List MemPlace} {base : Nat} (ht : P.underlying t = some (.slice e)) (he : P.underlying e = some (.int k)) (hc : P.cellsOf e = 1)
    (hval : Value.okWide P W .any base t v) (h : DataW.Trod enc P W 0 (fun _ => true) true t v d p) : ∃ zs : List Int, (∀ n ∈ zs, (Lit.int k n).wf = true) ∧ zs.length ≤ maxLen ∧ RV W (All W) (.lst (zs.map fun z => [.int k z])) v := by
  obtain ⟨a0, len0, cap0, rfl⟩ := WideShapes.okWide_slice ht hval
  obtain ⟨fuel, hf⟩ := h
  rcases Go.ChangeShapes.open_ints ht he hc hf with ⟨hcs, _⟩ | ⟨a, len, cap, zs, hcs, _, hl, hm, hz, _, hcell, hwz⟩
  · simp [Value.cells] at hcs
    obtain ⟨rfl, rfl, rfl⟩ := hcs
    refine ⟨[], by simp, by simp, ?_⟩
    simp only [List.map_nil, RV]
    exact ⟨_, _, _, rfl, rfl, Nat.le_refl _, .inl trivial⟩
  · simp [Value.cells] at hcs
    obtain ⟨rfl, rfl, rfl⟩ := hcs
    simp only [if_true] at hz
    refine ⟨zs.take len0, fun n hn => hwz n (List.mem_of_mem_take hn), by rw [List.length_take]; omega, ?_⟩
    simp only [RV]
    refine ⟨_, _, _, rfl, by simp; omega, hl, ?_⟩
    by_cases h0 : len0 = 0
    · left; subst h0; simp
    · right
      have hs := World.cell?_spot (hcell 0 (by omega))
      obtain ⟨b, o, sp⟩ := a
      have hs : sp = none := by simpa [Addr.add] using hs
      subst hs
      refine ⟨b, o, 1, rfl, by decide, RE_ints _ o fun i hi => ?_⟩
      simp at hi
      have := hcell i (by omega)
      rw [Addr.add_lit] at this
      rw [this]
      rw [List.getD_eq_getElem?_getD, List.getD_eq_getElem?_getD, List.getElem?_take, if_pos (by omega)]
theorem nums_of (zs : List Int) (h : ∀ n ∈ zs, (Lit.int .u64 n).wf = true) : ∃ l : List Nat, (zs.map fun z => ([.int .u64 z] : List Data)) = numsD l ∧ l.length = zs.length := by
  refine ⟨zs.map Int.toNat, ?_, by simp⟩
  unfold numsD
  rw [List.map_map]
  refine List.map_congr_left fun z hz => ?_
  have := h z hz
  simp [Lit.wf, IntKind.min, IntKind.max, IntKind.signed] at this
  simp; omega
theorem bytes_of (zs : List Int) (h : ∀ n ∈ zs, (Lit.int .u8 n).wf = true) : ∃ l : List UInt8, (zs.map fun z => ([.int .u8 z] : List Data)) = bytesD l ∧ l.length = zs.length := by
  refine ⟨zs.map fun z => UInt8.ofNat z.toNat, ?_, by simp⟩
  unfold bytesD
  rw [List.map_map]
  refine List.map_congr_left fun z hz => ?_
  have := h z hz
  simp [Lit.wf, IntKind.min, IntKind.max, IntKind.bits, IntKind.signed] at this
  simp only [Function.comp, UInt8.toNat_ofNat']
  rw [Nat.mod_eq_of_lt (by omega)]
  simp; omega
end Go.Proofs.YtfbodageccednaaDoor.Vm


/- An abstract machine over values, that the program's machine follows it, and its rules (X04). No condition. -/
import Derived.Test.YtpajpkbipagjpaaGreatDoorX03
set_option linter.unusedVariables false
set_option linter.unusedSimpArgs false
namespace Go.Proofs.YtpajpkbipagjpaaGreatDoor.Vm
open Go Go.RowKit Go.IntWalk
section
variable {Γ : Ctx} {st : St} {a : Act} {as : List Act} {β : Nat → Pl} {w : World} {Φ : Fns} {ρ : Option Nat} {Q : Exit → Act → World → Prop} {ops : Array Oper}
theorem qOne1 (hΦ : Sound Γ.toEnv Φ) {next : Act → World → Prop} {o : Oper} {t : Nat} {d : D} (hd : o.dst = some t) (htn : t < st.c.n) (S : Sim Γ st a as β w)
 (h : (evQ Γ.toEnv Φ (evO Γ.toEnv st) st o.op).ok fun d' => d = d') (hnext : ∀ a β w, Sim Γ (st.put t d) a as β w → next a w) : o.wpIn (Fw ρ) 0 Γ.P a w next Q := by
 by_cases hbs : ∃ t n ps, o.op = .buildSlice t n ps
 ·obtain ⟨ty, n, ps, hop⟩ := hbs
  rw [hop] at h
  simp only [evQ] at h
  have e : (ps.toList.map fun p => (p.1, evO Γ.toEnv st p.2)) = partsD Γ.toEnv st ps.toList := rfl
  rw [e] at h
  refine ⟨fun _ _ => trivial, ?_⟩
  rw [Oper.semAt_eq _ _ _ (fun c e => by rw [hop] at e; cases e)]
  have hx : (execOp a.eval o).run Γ.P w = Sem.run Γ.P (do pure (.value (← Instr.buildSlice ty n (ps.toList.map fun p => (p.1, a.eval p.2)).toArray)) : Sem Next) w := by
   have hps : (ps.toList.map fun p => (p.1, a.eval p.2)).toArray = ps.map fun p => (p.1, a.eval p.2) := by
    apply Array.ext'; simp
   rw [hps]
   unfold execOp
   rw [hop]
  rw [hx]
  refine upon_good (good_sliceQ S ty n ps.toList h) ?_
  rintro v d' st' β' w' S' hv ⟨rfl, h2⟩
  rw [hd]
  exact hnext _ β' w' (h2 ▸ S'.put htn hv)
 ·have hns : ∀ t n ps, o.op ≠ .buildSlice t n ps := fun t n ps e => hbs ⟨t, n, ps, e⟩
  have h' := evQ_ok (t := st.c.t) (E := Γ.toEnv) (Φ := Φ) (st := st) (f := evO Γ.toEnv st) o.op hns (fun _ _ => rfl) h
  refine ev_ok S hΦ o h' ?_ ?_ ?_ ?_
  ·rintro v d' st' β' w' S' hv ⟨rfl, h2⟩
   rw [hd]
   exact hnext _ β' w' (h2 ▸ S'.put htn hv)
  ·rintro st' β' w' S' h; exact h.elim
  ·intro g ds args _ h; exact h.elim
  ·intro l ds args b c sz _ _ h; exact h.elim
theorem goOps_q (hΦ : Sound Γ.toEnv Φ) {K : St → Prop} (hQ : ∀ st a β w, Sim Γ st a as β w → K st → Q .normal a w) : ∀ (l r : List Oper) (i : Nat) (st : St) (a : Act) (β : Nat → Pl) (w : World), ops.toList.drop i = l ++ r →
 (∀ o ∈ l, o.guard = none ∧ ∀ t, o.dst = some t → t < st.c.n) → Sim Γ st a as β w → runQ Γ.toEnv Φ ops l st (fun s => goOps Γ.toEnv Φ ops r s K) → wpOpsIn (Fw ρ) 0 Γ.P ops Q (List.range' i (l ++ r).length) a w
 | [], r, i, st, a, β, w, hl, _, S, h => goOps_ok hΦ hQ r i st a β w hl S h
 | o :: l, r, i, st, a, β, w, hl, hg, S, h => by
   have ho : ops[i]? = some o := by
    have := congrArg List.head? hl
    rw [List.head?_drop] at this
    simpa using this
   have hl' : ops.toList.drop (i + 1) = l ++ r := by
    rw [← List.tail_drop, hl]; rfl
   obtain ⟨hgu, hdn⟩ := hg o (by simp)
   simp only [List.cons_append, List.length_cons, List.range'_succ, wpOpsIn, ho]
   rw [if_pos (by simp [Region.wanted, hgu])]
   unfold runQ at h
   split at h
   ·exact h.elim
   ·rename_i t hd
    rw [hgu] at h
    obtain ⟨d, hk, hok⟩ := QA.run_ok h
    exact qOne1 hΦ hd (hdn t hd) S hok fun a' β' w' S' => goOps_q hΦ hQ l r (i + 1) (st.put t d) a' β' w' hl' (fun o' ho' => hg o' (by simp [ho'])) S' hk
end
def plainQ (ops : Array Oper) (q n : Nat) : Bool := (ops.toList.take q).all fun o => o.guard.isNone && match o.dst with | some t => decide (t < n) | none => true
section
variable {E : Env} {Φ : Fns} {ρ : Option Nat} {st st1 : St} {K : Exit → St → Prop} {T q p : Prop}
theorem VC.regQ {id : Nat} {ops : Array Oper} (hΦ : Sound E Φ) (n : Nat) (hs : plainQ ops n st.c.n = true)
 (h : ∀ L : St → Prop, (∀ s, (∀ K' : St → Prop, (∀ s, K .normal s → K' s) → goL E Φ ((ops.toList.drop n).map (strip ops)) s K') → L s) → runL E Φ ((ops.toList.take n).map (strip ops)) st L) :
 VC E ρ (.region id ops false) st K := fun Γ a as β w hΓ S => by
 subst hΓ
 have hr := h (fun s => goOps Γ.toEnv Φ ops (ops.toList.drop n) s (K .normal)) fun s a => by
  have := a (K .normal) fun _ k => k
  rwa [goL_ok] at this
 rw [runL_ok] at hr
 refine wpIn_region ?_
 have := goOps_q (Q := fun e a w => ∃ st' β', Sim Γ st' a as β' w ∧ K e st') (ρ := ρ.map Γ.pin) hΦ (K := K .normal) (fun st a β w S k => ⟨st, β, S, k⟩) (ops.toList.take n) (ops.toList.drop n) 0 st a β w (by simp) (fun o ho => by
  have := List.all_eq_true.1 hs o ho
  rw [Bool.and_eq_true, Option.isNone_iff_eq_none] at this
  refine ⟨this.1, fun t ht => ?_⟩
  have := this.2
  rw [ht] at this
  simpa using this) S hr
 rw [List.take_append_drop] at this
 simpa [List.range_eq_range'] using this
theorem VC.regQ1 {id : Nat} {ops : Array Oper} {y : Code} (hΦ : Sound E Φ) (n : Nat) (hs : plainQ ops n st.c.n = true) (ts : List Nat)
 (h : ∀ L : St → Prop, (∀ s, (∀ K' : St → Prop, (∀ s, VC E ρ y (s.keep ts) K → K' s) → goL E Φ ((ops.toList.drop n).map (strip ops)) s K') → L s) → runL E Φ ((ops.toList.take n).map (strip ops)) st L) :
 VC E ρ (.seq (.region id ops false) y) st K :=
 VC.seq (VC.regQ hΦ n hs fun L hL => h L fun s a => hL s fun K' hK => a K' fun s hs => hK s (hs.ent (Ent.keep s ts)))
theorem rqB {id n : Nat} {ops : Array Oper} {y : Code} {Q : (St → Prop) → Prop} (hΦ : Sound E Φ) (ts : List Nat) (e : T)
 (h : ∀ L : St → Prop, (∀ s, (∀ K' : St → Prop, (∀ s, VC E ρ y (s.keep ts) K → K' s) → goL E Φ ((ops.toList.drop n).map (strip ops)) s K') → L s) → Q L) (k : VC E ρ (.seq (.region id ops false) y) st K → p := by exact fun h => nx h) (hs : plainQ ops n st.c.n = true := by kernel_rfl)
 (k2 : ∀ L : St → Prop, T → Q L → runL E Φ ((ops.toList.take n).map (strip ops)) st L := by
  intro L e h
  dsimp only [List.append, List.take, List.drop, List.map, strip, stripG]
  try simp only [gtmp, List.getElem?_toArray, List.getElem?_cons_succ, List.getElem?_cons_zero, Option.bind_some]
  simp -implicitDefEqProofs only [go_sem, e]
  exact h) : p := k (VC.regQ1 hΦ n hs ts fun L hL => k2 L e (h L hL))
theorem Sim.reord {Γ : Ctx} {a : Act} {as : List Act} {β : Nat → Pl} {w : World} (S : Sim Γ st a as β w) {h' : List (Nat × Blk)} (hh : ∀ k, find h' k = find st.h k) : Sim Γ ⟨st.c, st.s, h'⟩ a as β w ∧ Im Γ β h' w = Im Γ β st.h w := by
 have e : Im Γ β h' w = Im Γ β st.h w := by
  funext b o
  simp only [Im, hh]
 refine ⟨⟨S.below, S.hJ, e ▸ S.glob, fun l l' B B' b c c' sz sz' h1 h2 => S.apart l l' B B' b c c' sz sz' (hh l ▸ h1) (hh l' ▸ h2), e ▸ S.cur, e ▸ S.stk, fun l B h1 => e ▸ S.heap l B (hh l ▸ h1)⟩, e⟩
def Reord (s s' : St) : Prop := s'.c = s.c ∧ s'.s = s.s ∧ ∀ k, find s'.h k = find s.h k
theorem Sim.ro {Γ : Ctx} {a : Act} {as : List Act} {β : Nat → Pl} {w : World} (S : Sim Γ st a as β w) (h : Reord st st1) : Sim Γ st1 a as β w ∧ Im Γ β st1.h w = Im Γ β st.h w := by
 obtain ⟨c, s, h'⟩ := st1
 obtain ⟨rfl, rfl, hh⟩ := h
 exact S.reord hh
theorem Back.ro {Γ : Ctx} {a : Act} {as : List Act} {K : D → St → Prop} {e : Ending} {w : World} (h : Back Γ a as (fun d s => ∃ s', Reord s s' ∧ K d s') e w) : Back Γ a as K e w := by
 obtain ⟨v, d, st, β, h1, S, hv, s', hr, hk⟩ := h
 obtain ⟨S', e'⟩ := S.ro hr
 exact ⟨v, d, s', β, h1, S', e' ▸ hv, hk⟩
theorem VCyield.ro {l : Nat} {ds : List D} {K : D → St → Prop} (h : VCyield E l ds st (fun d s => ∃ s', Reord s s' ∧ K d s')) : VCyield E l ds st K := fun Γ a as β w args b c sz hΓ S hl hargs => by
 obtain ⟨f, tmps, assign, body, h1, h2⟩ := h Γ a as β w args b c sz hΓ S hl hargs
 exact ⟨f, tmps, assign, body, h1, RoundIn.mono (F := Fw none) h2 fun e w' hb => hb.ro⟩
theorem VCcall.ro {g : Nat} {ds : List D} {K : D → St → Prop} (hr : Reord st st1) (h : VCcall E g ds st1 K) : VCcall E g ds st K := fun Γ a as β w args hΓ S hargs => by
 obtain ⟨S', e⟩ := S.ro hr
 exact h Γ a as β w args hΓ S' (e ▸ hargs)
theorem find_ro {h h' : List (Nat × Blk)} (h1 : ∀ x ∈ h', find h x.1 = some x.2) (h2 : ∀ x ∈ h, (find h' x.1).isSome = true) : ∀ k, find h' k = find h k := by
 intro k
 have key : ∀ (l : List (Nat × Blk)), (∃ B, (k, B) ∈ l) ∨ find l k = none := by
  intro l
  induction l with
  | nil => exact .inr rfl
  | cons x l ih =>
    by_cases e : x.1 = k
    ·exact .inl ⟨x.2, by rw [← e]; simp⟩
    ·rcases ih with ⟨B, hB⟩ | h
     ·exact .inl ⟨B, by simp [hB]⟩
     ·exact .inr (by rw [find, if_neg e]; exact h)
 cases hf : find h' k with
 | some B => exact (h1 _ (find_mem hf)).symm
 | none =>
   rcases key h with ⟨B, hB⟩ | h
   ·have := h2 _ hB
    rw [hf] at this; cases this
   ·exact h.symm
def Cln (l : Nat) (c : Fr) (stk : List Fr) : Prop := Tm.erase l c.t = c.t ∧ frsErase l stk = stk ∧ ¬ l ∈ c.m ∧ noMark l stk
theorem Cln.push {l : Nat} {c f : Fr} {stk : List Fr} (h : Cln l c stk) (hf : Tm.erase l f.t = f.t) (hm : ¬ l ∈ f.m) : Cln l f (c :: stk) := by
 obtain ⟨h1, h2, h3, h4⟩ := h
 refine ⟨hf, ?_, hm, ?_⟩
 ·rw [frsErase, h2]
  show Fr.mk c.n (Tm.erase l c.t) c.m :: stk = _
  rw [h1]
 ·simp only [noMark]; exact ⟨h3, h4⟩
end
end Go.Proofs.YtpajpkbipagjpaaGreatDoor.Vm

/- An abstract machine over values: what is of a function's own making, contracts of the library (fifth part). No condition. -/
import Derived.Test.YtgfadocohpinmaaDoorVmD
set_option linter.unusedVariables false
set_option linter.unusedSimpArgs false
namespace Go.Proofs.YtgfadocohpinmaaDoor.Vm
open Go
@[go_sem] theorem byteAt_nat (s : List UInt8) (k : Nat) : byteAt s (k : Int) = s.getD k 0 := rfl
@[go_sem] theorem byteAt_0 (s : List UInt8) : byteAt s 0 = s.getD 0 0 := rfl
@[go_sem] theorem byteAt_1 (s : List UInt8) : byteAt s 1 = s.getD 1 0 := rfl
end Go.Proofs.YtgfadocohpinmaaDoor.Vm
namespace Go.Proofs.YtgfadocohpinmaaDoor.Vm
open Go
/-- What is shut for good, in place: a temporary's value as a datum. -/
theorem Ent.frzT {s s' : St} {t : Nat} {d : D} {x : Data} (h : look s.c.t t = d) (hz : frz s d = some (x, s')) : Ent s (s'.put t (.dat x)) := fun Γ a as β w S => by
  obtain ⟨hA, hv⟩ := frz_ok d S (h ▸ S.get t) hz
  exact ⟨β, hA.1.know (by simpa [RVD] using hv)⟩
theorem Ent.move {s : St} (t l l' : Nat) {o n e sz fz : Nat} {xs : List (List Data)} (hm : s.noMark l) (hm' : s.noMark l') (ht : look s.c.t t = .sl l o n) (hf : find s.h l = some (.arr e sz xs fz)) : Ent s (((s.erase l).add l' (.arr e sz xs fz)).put t (.sl l' o n)) := fun Γ a as β w S => by
  have h := S.get t
  rw [ht] at h
  refine ⟨_, (S.rename hf hm hm').1.know ?_⟩
  simp only [RVD, upd_same] at h ⊢
  exact h
end Go.Proofs.YtgfadocohpinmaaDoor.Vm
namespace Go.Proofs.YtgfadocohpinmaaDoor.Vm
open Go Go.RowKit
/-! ### Functions whose first result is a row of their own making -/
structure OFn where
  pre : List Data → Prop
  e : Nat
  sz : Nat
  row : List Data → List (List Data)
  rest : List Data → List Data
def FreshO (J : Cset) (w w' : World) (pl : Pl) : Cset := fun b o => J b o ∨ (w.heap.size ≤ b ∧ b < w'.heap.size ∧ ∀ c s, pl ≠ .blk b c s)
def RowOK (w w' : World) (I : Cset) (pl : Pl) (e sz : Nat) (xs : List (List Data)) : Prop :=
  0 < sz ∧ (∀ x ∈ xs, x.length = sz) ∧ ((pl = .nil ∧ xs = []) ∨
    ∃ b cap cur, pl = .blk b cap sz ∧ w.heap.size ≤ b ∧ w'.heap[b]? = some (.cells cur e (0, 0)) ∧ xs.length ≤ cap ∧ cap ≤ maxLen ∧ cur.size = cap * sz ∧
      ∀ (j : Nat) (d : Data), xs.flatten[j]? = some d → d.one = true ∧ ∃ v, cur[j]? = some v ∧ RV w' I d v)
def rowD (l : Nat) (xs : List (List Data)) (rest : List Data) : D := tupD (.sl l 0 xs.length :: rest.map .dat)
def Own (E : Env) (f : Nat) (p : OFn) : Prop := ∀ (w : World) (J : Cset) (args : Array Value) (ds : List Data), (∀ b o, J b o → b < w.heap.size) → Glob E w J → RVs w J ds args.toList → p.pre ds →
  CallsIn (Fw none) 0 E.P f args w fun e w' => ∃ v pl, e = .returned v ∧ Below w.heap.size w w' ∧ RowOK w w' (FreshO J w w' pl) pl p.e p.sz (p.row ds) ∧ RVD w' (FreshO J w w' pl) (fun _ => pl) (rowD 0 (p.row ds) (p.rest ds)) v
theorem dats_beta {w : World} {I : Cset} {β β' : Nat → Pl} : ∀ {ds : List Data} {vs : List Value}, RVDs w I β (ds.map .dat) vs → RVDs w I β' (ds.map .dat) vs
  | [], vs, h => h
  | d :: ds, vs, h => by
    simp only [List.map_cons, RVDs] at h ⊢
    obtain ⟨v, r, rfl, h1, h2⟩ := h
    exact ⟨v, r, rfl, h1, dats_beta h2⟩
theorem rowD_name {w : World} {I : Cset} {β β' : Nat → Pl} {l l' : Nat} {xs : List (List Data)} {rest : List Data} {v : Value} (hb : β' l' = β l) (h : RVD w I β (rowD l xs rest) v) : RVD w I β' (rowD l' xs rest) v := by
  have key : ∀ u, RVD w I β (.sl l 0 xs.length) u → RVD w I β' (.sl l' 0 xs.length) u := by
    intro u hu
    simp only [RVD, hb] at hu ⊢
    exact hu
  unfold rowD at h ⊢
  cases rest with
  | nil => exact key v h
  | cons r rs =>
    simp only [List.map_cons, tupD, RVD] at h ⊢
    obtain ⟨vs, rfl, h⟩ := h
    refine ⟨vs, rfl, ?_⟩
    rw [RVDs] at h ⊢
    obtain ⟨u, r', e, h1, h2⟩ := h
    exact ⟨u, r', e, key u h1, dats_beta (ds := _ :: _) h2⟩
section
variable {Γ : Ctx} {st : St} {a : Act} {as : List Act} {β : Nat → Pl} {w : World}
theorem Sim.adopt (S : Sim Γ st a as β w) {w' : World} (hw : Below w.heap.size w w') {l e sz : Nat} {xs : List (List Data)} {pl : Pl} (hm : st.noMark l)
    (hR : RowOK w w' (FreshO (Im Γ β st.h w) w w' pl) pl e sz xs) :
    Sim Γ (st.add l (.arr e sz xs 0)) a as (upd β l pl) w' ∧ Keeps w' (FreshO (Im Γ β st.h w) w w' pl) w' (Im Γ (upd β l pl) (st.add l (.arr e sz xs 0)).h w') := by
  obtain ⟨S2, K2⟩ := S.called hw
  have hβ : ∀ k, k ≠ l → upd β l pl k = β k := upd_ne
  have hge : ∀ b c s, pl = .blk b c s → w.heap.size ≤ b := by
    obtain ⟨_, _, h⟩ := hR
    rcases h with ⟨h, _⟩ | ⟨b0, cap, cur, h, h1, _⟩
    · intro b c s e; rw [h] at e; cases e
    · intro b c s e; rw [h] at e; injection e with e; subst e; exact h1
  have hfind : ∀ k B, find (st.add l (.arr e sz xs 0)).h k = some B → (k = l ∧ B = .arr e sz xs 0) ∨ (k ≠ l ∧ ∃ B0, find st.h k = some B0 ∧ B = B0.erase l) := by
    intro k B h
    simp only [St.add, find_cons, find_hErase] at h
    by_cases e : l = k
    · rw [if_pos e] at h; cases h; exact .inl ⟨e.symm, rfl⟩
    · rw [if_neg e, if_neg (fun h => e h.symm)] at h
      obtain ⟨B1, h0, h1⟩ := Option.map_eq_some_iff.1 h
      exact .inr ⟨fun h => e h.symm, B1, h0, h1.symm⟩
  have K : Keeps w' (FreshO (Im Γ β st.h w) w w' pl) w' (Im Γ (upd β l pl) (st.add l (.arr e sz xs 0)).h w') := by
    intro b o h
    refine ⟨?_, rfl⟩
    have old : ∀ k B, find (st.add l (.arr e sz xs 0)).h k = some B → Mut (upd β l pl) k B b o → (∃ c s, pl = .blk b c s) ∨ ∃ B0, find st.h k = some B0 ∧ Mut β k B0 b o := by
      intro k B hB hmu
      rcases hfind k B hB with ⟨rfl, rfl⟩ | ⟨hk, B0, h0, rfl⟩
      · simp only [Mut, upd_same] at hmu
        obtain ⟨c, s, h, _⟩ := hmu
        exact .inl ⟨c, s, h⟩
      · exact .inr ⟨B0, h0, (Mut.erase (hβ k hk) B0 b o).1 hmu⟩
    rcases h with h | ⟨h1, h2, h3⟩
    · have hlt : b < w.heap.size := by
        rcases h with h | h
        · exact Nat.lt_of_lt_of_le (S.hJ b o h) S.below.size
        · exact h.2.1
      rcases (K2 b o h).1 with h' | ⟨g1, g2, g3⟩
      · exact .inl h'
      · refine .inr ⟨g1, g2, fun k B hB hmu => ?_⟩
        rcases old k B hB hmu with ⟨c, s, hp⟩ | ⟨B0, h0, hmu⟩
        · have := hge b c s hp; omega
        · exact g3 k B0 h0 hmu
    · refine .inr ⟨Nat.le_trans S.below.size h1, h2, fun k B hB hmu => ?_⟩
      rcases old k B hB hmu with ⟨c, s, hp⟩ | ⟨B0, h0, hmu⟩
      · exact h3 c s hp
      · obtain ⟨c, sz, hb⟩ := hmu.block
        have := (S.lt h0 hb).1
        omega
  have K3 : Keeps w (Im Γ β st.h w) w' (Im Γ (upd β l pl) (st.add l (.arr e sz xs 0)).h w') := fun b o h => ⟨(K b o (.inl h)).1, (K2 b o h).2⟩
  refine ⟨⟨S2.below, S.hJ, S.glob.keeps K3, ?_, (S.cur.keeps K3).erase hβ hm.1, (S.stk.keeps K3).erase hβ hm.2, ?_⟩, K⟩
  · intro k k' B1 B2 b c c' s s' h1 h2 e1 e2
    rcases hfind k B1 h1 with ⟨rfl, rfl⟩ | ⟨hk, C1, f1, rfl⟩
    · rw [upd_same] at e1
      rcases hfind k' B2 h2 with ⟨rfl, rfl⟩ | ⟨hk', C2, f2, rfl⟩
      · rfl
      · rw [hβ k' hk'] at e2
        have h3 := hge b c s e1
        have h4 := (S.lt f2 e2).1
        omega
    · rw [hβ k hk] at e1
      rcases hfind k' B2 h2 with ⟨rfl, rfl⟩ | ⟨hk', C2, f2, rfl⟩
      · rw [upd_same] at e2
        have h3 := hge b c' s' e2
        have h4 := (S.lt f1 e1).1
        omega
      · exact S.apart k k' C1 C2 b c c' s s' f1 f2 e1 (by rw [← hβ k' hk']; exact e2)
  · intro k B hB
    rcases hfind k B hB with ⟨rfl, rfl⟩ | ⟨hk, B0, h0, rfl⟩
    · obtain ⟨q1, q3, q4⟩ := hR
      refine ⟨q1, Nat.zero_le _, q3, ?_⟩
      rw [upd_same]
      rcases q4 with q4 | ⟨b, cap, cur, h1, h2, h3, h4, h5, h6, h7⟩
      · exact .inl q4
      · refine .inr ⟨b, cap, cur, h1, Nat.le_trans S.below.size h2, h3, h4, h5, h6, fun j d hd => ?_⟩
        obtain ⟨r1, v, r2, r3⟩ := h7 j d hd
        exact ⟨r1, v, r2, r3.keeps K⟩
    · exact (S.heap k B0 h0).carry K3 hβ hk fun b c sz hb => hw.block b (S.lt h0 hb).1
end
theorem VCcall.own {E : Env} {f : Nat} {p : OFn} {ds : List D} {st st1 : St} {K : D → St → Prop} {xs : List Data} (h : Own E f p) (l : Nat) (hz : frzs st ds = some (xs, st1)) (hp : p.pre xs) (hm : st1.noMark l)
    (hK : K (rowD l (p.row xs) (p.rest xs)) (st1.add l (.arr p.e p.sz (p.row xs) 0))) : VCcall E f ds st K := by
  intro Γ a as β w args hΓ S hargs
  subst hΓ
  obtain ⟨⟨S', K'⟩, hrv⟩ := frzs_ok ds S hargs hz
  have hI : ∀ b o, Im Γ β st1.h w b o → b < w.heap.size := by
    intro b o hi
    rcases hi with hi | hi
    · exact Nat.lt_of_lt_of_le (S'.hJ b o hi) S'.below.size
    · exact hi.2.1
  refine (h w _ args xs hI S'.glob hrv hp).mono fun e w' he => ?_
  obtain ⟨v, pl, rfl, hb, hR, hv⟩ := he
  obtain ⟨S3, K3⟩ := S'.adopt hb hm hR
  exact ⟨v, _, _, _, rfl, S3, rowD_name (upd_same _ _ _) (RVD.keeps K3 _ _ hv), hK⟩
def datsOf : List D → Option (List Data)
  | [] => some []
  | .dat d :: r => (datsOf r).map (d :: ·)
  | _ => none
theorem datsOf_ok : ∀ {ds : List D} {xs : List Data}, datsOf ds = some xs → ds = xs.map .dat
  | [], xs, h => by simp only [datsOf, Option.some.injEq] at h; subst h; rfl
  | .dat d :: r, xs, h => by
    simp only [datsOf, Option.map_eq_some_iff] at h
    obtain ⟨ys, h1, rfl⟩ := h
    rw [datsOf_ok h1]; rfl
  | .nilsl :: r, xs, h => by simp [datsOf] at h
  | .ref _ _ :: r, xs, h => by simp [datsOf] at h
  | .sl _ _ _ :: r, xs, h => by simp [datsOf] at h
  | .eref _ _ _ :: r, xs, h => by simp [datsOf] at h
  | .agg _ :: r, xs, h => by simp [datsOf] at h
  | .tup _ :: r, xs, h => by simp [datsOf] at h
  | .fn _ _ _ :: r, xs, h => by simp [datsOf] at h
  | .yld _ :: r, xs, h => by simp [datsOf] at h
  | .junk :: r, xs, h => by simp [datsOf] at h
def ownS (P : Program) (rs : List ResultVar) (e sz : Nat) (row : List (List Data)) (rest : List Data) (s : St) : Prop :=
  (∀ l ∈ s.c.m, find s.h l = some .defer) ∧ s.c.m.Nodup ∧
    match resD P ⟨s.c, s.s, dropH s.c.m s.h⟩ rs with
    | some (.nilsl :: ds) => 0 < sz ∧ row = [] ∧ datsOf ds = some rest
    | some (.sl l o n :: ds) => o = 0 ∧ n = row.length ∧ find (dropH s.c.m s.h) l = some (.arr e sz row 0) ∧ datsOf ds = some rest
    | _ => False
def ownK (P : Program) (rs : List ResultVar) (e sz : Nat) (row : List (List Data)) (rest : List Data) : Exit → St → Prop
  | .normal, s => ownS P rs e sz row rest s
  | .ret, s => ownS P rs e sz row rest s
  | _, _ => False
theorem Own.of_body {E : Env} {g : Nat} {pf : OFn} {fn : Func} {c : Code} {rs : List ResultVar} {n : Nat} (hf : E.P.funcs[g]? = some fn) (hb : fn.body = some c) (hrs : fn.results.toList = rs) (hnt : fn.ntmps = n)
    (h : ∀ ds, pf.pre ds → ds.length ≤ n ∧ VC E none c (pureSt n ds) (ownK E.P rs pf.e pf.sz (pf.row ds) (pf.rest ds))) : Own E g pf := by
  subst hrs
  subst hnt
  intro w J args ds hJ hG hargs hpre
  obtain ⟨hlen, hvc⟩ := h ds hpre
  let Γ : Ctx := ⟨E, w, J, fun _ => 0⟩
  have hK : Keeps w J w (Im Γ (fun _ => .nil) [] w) := fun b o hj => ⟨.inl hj, rfl⟩
  have S : Sim Γ (pureSt fn.ntmps ds) { tmps := args ++ Array.replicate (fn.ntmps - args.size) undef, defers := [] } [] (fun _ => .nil) w := by
    refine ⟨Below.refl _ _, hJ, hG.keeps hK, ?_, ?_, ?_, ?_⟩
    · intro l l' B B' b c c' sz sz' h1; simp [pureSt, find] at h1
    · exact enter_frame (RVs.dats (RVs.keeps hK _ _ hargs)) (by simpa using hlen)
    · exact rfl
    · intro l B hB; simp [pureSt, find] at hB
  refine callsIn_of_wp_marks hf hb trivial (wpIn_mono (hvc Γ _ [] _ w rfl S) ?_)
  rintro e a' w' ⟨s, β', S', k⟩
  have ret : ownS E.P fn.results.toList pf.e pf.sz (pf.row ds) (pf.rest ds) s → LeavesInM (Fw none) 0 E.P fn a'.tmps (fun e w' => ∃ v pl, e = .returned v ∧ Below w.heap.size w w' ∧ RowOK w w' (FreshO J w w' pl) pl pf.e pf.sz (pf.row ds) ∧ RVD w' (FreshO J w w' pl) (fun _ => pl) (rowD 0 (pf.row ds) (pf.rest ds)) v) a'.defers .returning w' := by
    rintro ⟨k1, k2, k3⟩
    rw [S'.cur.2.2]
    refine leaves_ok (Γ := Γ) s.c.m S' k1 k2 fun w'' S'' => ?_
    split at k3
    · rename_i ds' hds
      obtain ⟨v, h1, h2⟩ := results_ok S'' (fn := fn) hds
      obtain ⟨k4, k5, k6⟩ := k3
      have k6 := datsOf_ok k6
      subst k6
      refine ⟨v, h1, v, .nil, rfl, S''.below, ⟨k4, by rw [k5]; simp, .inl ⟨rfl, k5⟩⟩, ?_⟩
      have hk : Keeps w'' (Im Γ β' (dropH s.c.m s.h) w'') w'' (FreshO J w w'' .nil) := by
        intro b o hi
        refine ⟨?_, rfl⟩
        rcases hi with hi | ⟨g1, g2, _⟩
        · exact .inl hi
        · exact .inr ⟨g1, g2, fun c s e => by cases e⟩
      have h3 := RVD.keeps hk _ _ h2
      have key : ∀ u, RVD w'' (FreshO J w w'' .nil) β' .nilsl u → RVD w'' (FreshO J w w'' .nil) (fun _ => .nil) (.sl 0 0 (pf.row ds).length) u := by
        intro u hu
        rw [k5]
        simp only [RVD] at hu
        obtain ⟨a, rfl⟩ := hu
        exact RVD.nilrow rfl a
      unfold rowD
      cases hr : pf.rest ds with
      | nil => rw [hr] at h3; exact key v h3
      | cons r rs =>
        rw [hr] at h3
        simp only [List.map_cons, tupD, RVD] at h3 ⊢
        obtain ⟨vs, rfl, h3⟩ := h3
        refine ⟨vs, rfl, ?_⟩
        rw [RVDs] at h3 ⊢
        obtain ⟨u, r', e, h1, h2⟩ := h3
        exact ⟨u, r', e, by simpa [RVD] using key u h1, dats_beta (ds := _ :: _) h2⟩
    · rename_i l o n ds' hds
      obtain ⟨v, h1, h2⟩ := results_ok S'' (fn := fn) hds
      obtain ⟨rfl, rfl, k5, k6⟩ := k3
      have k6 := datsOf_ok k6
      subst k6
      obtain ⟨q1, q2, q3, q4⟩ := S''.heap l _ k5
      have hk : Keeps w'' (Im Γ β' (dropH s.c.m s.h) w'') w'' (FreshO J w w'' (β' l)) := by
        intro b o hi
        refine ⟨?_, rfl⟩
        rcases hi with hi | ⟨g1, g2, g3⟩
        · exact .inl hi
        · exact .inr ⟨g1, g2, fun c s e => g3 l _ k5 ⟨c, s, e, by simp⟩⟩
      refine ⟨v, h1, v, β' l, rfl, S''.below, ⟨q1, q3, ?_⟩, ?_⟩
      · rcases q4 with q4 | ⟨b, cap, cur, h1, h2, h3, h4, h5, h6, h7⟩
        · exact .inl q4
        · refine .inr ⟨b, cap, cur, h1, h2, h3, h4, h5, h6, fun j d hd => ?_⟩
          obtain ⟨r1, v, r2, r3⟩ := h7 j d hd
          exact ⟨r1, v, r2, r3.keeps hk⟩
      · exact rowD_name (β := β') (β' := fun _ => β' l) (l := l) (l' := 0) rfl (RVD.keeps hk _ _ h2)
    · exact k3.elim
  cases e with
  | normal => exact ret k
  | ret => exact ret k
  | _ => exact k.elim
end Go.Proofs.YtgfadocohpinmaaDoor.Vm
namespace Go.Proofs.YtgfadocohpinmaaDoor.Vm
open Go Go.RowKit
theorem FreshO.keeps {J : Cset} {w w' : World} {pl : Pl} : Keeps w' (FreshO J w w' pl) w' (Fresh J w w') := fun b o h => ⟨h.imp id fun h => ⟨h.1, h.2.1⟩, rfl⟩
theorem RowOK.shut {J : Cset} {w w' : World} {pl : Pl} {e sz : Nat} {xs : List (List Data)} (h : RowOK w w' (FreshO J w w' pl) pl e sz xs) {v : Value} (hv : RVD w' (FreshO J w w' pl) (fun _ => pl) (.sl 0 0 xs.length) v) :
    RV w' (Fresh J w w') (.lst xs) v := by
  obtain ⟨p1, p3, p4⟩ := h
  simp only [RVD] at hv
  simp only [RV]
  rcases hv with ⟨hb, _, hn, a, rfl⟩ | ⟨b, c, sz', ad, hb, hle, rfl, had⟩
  · exact ⟨a, 0, 0, rfl, hn.symm, Nat.le_refl _, .inl (List.eq_nil_of_length_eq_zero hn)⟩
  · rcases p4 with ⟨q, _⟩ | ⟨b', cap, cur, hb', hge, hh, hn', hm, hcs, hcells⟩
    · rw [hb] at q; cases q
    · rw [hb] at hb'; injection hb' with e1 e2 e3; subst e1 e2 e3
      refine ⟨ad, xs.length, c - 0, rfl, rfl, by omega, ?_⟩
      by_cases hn0 : xs.length = 0
      · exact .inl (List.eq_nil_of_length_eq_zero hn0)
      · right
        have had' : ad = some ⟨b, 0, none⟩ := by
          rcases had with g | g
          · simpa using g
          · omega
        have hlt : b < w'.heap.size := (Array.getElem?_eq_some_iff.1 hh).1
        refine ⟨b, 0, sz', had', p1, RE.mk fun i x hi => ?_⟩
        have hio := (List.getElem?_eq_some_iff.1 hi).1
        have hxl : x.length = sz' := p3 x (List.mem_of_getElem? hi)
        refine ⟨hxl, RC.mk fun j d hj => ?_⟩
        have hjl := (List.getElem?_eq_some_iff.1 hj).1
        have hflat : xs.flatten[i * sz' + j]? = some d := by
          rw [flatten_get p3 hio (by omega), ← hj]
          rw [List.getElem?_eq_getElem hio] at hi
          rw [Option.some.inj hi]
        obtain ⟨h1, u, hu, hr⟩ := hcells _ d hflat
        refine ⟨u, ?_, .inr ⟨hge, hlt⟩, h1, hr.keeps FreshO.keeps⟩
        rw [show 0 + i * sz' + j = i * sz' + j by omega]
        simp only [World.cell?, hh, Option.isSome_none, Bool.false_eq_true, if_false]
        exact hu
def OFn.shut (p : OFn) : PFn := ⟨p.pre, fun ds => .lst (p.row ds) :: p.rest ds⟩
theorem Own.pure {E : Env} {f : Nat} {p : OFn} (h : Own E f p) : Pure E f p.shut := by
  intro w J args ds hJ hG hargs hpre
  refine (h w J args ds hJ hG hargs hpre).mono fun e w' he => ?_
  obtain ⟨v, pl, rfl, hb, hR, hv⟩ := he
  refine ⟨v, rfl, hb, ?_⟩
  show RVD w' (Fresh J w w') (fun _ => .nil) (retD (.lst (p.row ds) :: p.rest ds)) v
  unfold rowD at hv
  cases hr : p.rest ds with
  | nil => rw [hr] at hv; exact hR.shut hv
  | cons r rs =>
    rw [hr] at hv
    simp only [List.map_cons, tupD, RVD] at hv
    simp only [retD, List.map_cons, RVD]
    obtain ⟨vs, rfl, hv⟩ := hv
    refine ⟨vs, rfl, ?_⟩
    rw [RVDs] at hv ⊢
    obtain ⟨u, r', e, h1, h2⟩ := hv
    refine ⟨u, r', e, ?_, dats_beta (ds := _ :: _) (RVDs.keeps FreshO.keeps _ _ h2)⟩
    simpa only [RVD] using hR.shut h1
/-- A contract over things that the data read as. -/
noncomputable def OFn.of {α : Type} (A : α → List Data) (pre : α → Prop) (e sz : Nat) (row : α → List (List Data)) (rest : α → List Data) : OFn :=
  ⟨fun ds => ∃ x, ds = A x ∧ pre x, e, sz, fun ds => by classical exact if h : ∃ x, ds = A x then row (Classical.choose h) else [], fun ds => by classical exact if h : ∃ x, ds = A x then rest (Classical.choose h) else []⟩
section
variable {α : Type} {A : α → List Data} {pre : α → Prop} {e sz : Nat} {row : α → List (List Data)} {rest : α → List Data}
theorem OFn.of_pre (hA : ∀ x y, A x = A y → x = y) (x : α) : (OFn.of A pre e sz row rest).pre (A x) = pre x :=
  propext ⟨fun ⟨y, e, h⟩ => hA x y e ▸ h, fun h => ⟨x, rfl, h⟩⟩
theorem OFn.of_row (hA : ∀ x y, A x = A y → x = y) (x : α) : (OFn.of A pre e sz row rest).row (A x) = row x := by
  classical
  have h : ∃ y, A x = A y := ⟨x, rfl⟩
  unfold OFn.of
  simp only []
  rw [dif_pos h]
  exact congrArg row (hA _ _ (Classical.choose_spec h)).symm
theorem OFn.of_rest (hA : ∀ x y, A x = A y → x = y) (x : α) : (OFn.of A pre e sz row rest).rest (A x) = rest x := by
  classical
  have h : ∃ y, A x = A y := ⟨x, rfl⟩
  unfold OFn.of
  simp only []
  rw [dif_pos h]
  exact congrArg rest (hA _ _ (Classical.choose_spec h)).symm
end
attribute [go_sem] ownK ownS datsOf rowD tupD OFn.shut
end Go.Proofs.YtgfadocohpinmaaDoor.Vm
namespace Go.Proofs.YtgfadocohpinmaaDoor.Vm
open Go Go.RowKit
/-! ### Contracts of the library's own, as contracts of what only computes -/
theorem Pure.of_calls {E : Env} {f : Nat} {α : Type} {A : α → List Data} {pre : α → Prop} {res : α → List Data} (hA : ∀ x y, A x = A y → x = y)
    (h : ∀ (w : World) (J : Cset) (args : Array Value) (x : α), (∀ b o, J b o → b < w.heap.size) → Glob E w J → RVs w J (A x) args.toList → pre x →
    Calls E.P f args w fun e w' => ∃ v, e = .returned v ∧ Below w.heap.size w w' ∧ RVD w' (Fresh J w w') (fun _ => .nil) (retD (res x)) v) : Pure E f (PFn.of A pre res) := by
  intro w J args ds hJ hG hargs hpre
  obtain ⟨x, rfl, hx⟩ := hpre
  rw [PFn.of_res hA]
  exact callsIn_wide.2 (h w J args x hJ hG hargs hx)
theorem args1 {w : World} {J : Cset} {d : Data} {args : Array Value} (h : RVs w J [d] args.toList) : ∃ v, args = #[v] ∧ RV w J d v := by
  simp only [RVs] at h
  obtain ⟨v, r, e, h1, rfl⟩ := h
  exact ⟨v, Array.ext' (by rw [e]), h1⟩
theorem args2 {w : World} {J : Cset} {d d2 : Data} {args : Array Value} (h : RVs w J [d, d2] args.toList) : ∃ v v2, args = #[v, v2] ∧ RV w J d v ∧ RV w J d2 v2 := by
  simp only [RVs] at h
  obtain ⟨v, r, e, h1, v2, r2, e2, h2, rfl⟩ := h
  exact ⟨v, v2, Array.ext' (by rw [e, e2]), h1, h2⟩
theorem args3 {w : World} {J : Cset} {d d2 d3 : Data} {args : Array Value} (h : RVs w J [d, d2, d3] args.toList) : ∃ v v2 v3, args = #[v, v2, v3] ∧ RV w J d v ∧ RV w J d2 v2 ∧ RV w J d3 v3 := by
  simp only [RVs] at h
  obtain ⟨v, r, e, h1, v2, r2, e2, h2, v3, r3, e3, h3, rfl⟩ := h
  exact ⟨v, v2, v3, Array.ext' (by rw [e, e2, e3]), h1, h2, h3⟩
theorem args5 {w : World} {J : Cset} {d d2 d3 d4 d5 : Data} {args : Array Value} (h : RVs w J [d, d2, d3, d4, d5] args.toList) : ∃ v v2 v3 v4 v5, args = #[v, v2, v3, v4, v5] ∧ RV w J d v ∧ RV w J d2 v2 ∧ RV w J d3 v3 ∧ RV w J d4 v4 ∧ RV w J d5 v5 := by
  simp only [RVs] at h
  obtain ⟨v, r, e, h1, v2, r2, e2, h2, v3, r3, e3, h3, v4, r4, e4, h4, v5, r5, e5, h5, rfl⟩ := h
  exact ⟨v, v2, v3, v4, v5, Array.ext' (by rw [e, e2, e3, e4, e5]), h1, h2, h3, h4, h5⟩
theorem numsD_take_len (l : List Nat) : (numsD l).take l.length = numsD l := List.take_of_length_le (by rw [numsD_len]; exact Nat.le_refl _)
/-- A row of strings. -/
def strsD (l : List (List UInt8)) : List (List Data) := l.map fun s => [.str s]
@[go_sem] theorem strsD_len (l : List (List UInt8)) : (strsD l).length = l.length := by simp [strsD]
theorem strsD_at {l : List (List UInt8)} {k : Nat} (h : k < l.length) : (strsD l).getD k [] = [.str (l.getD k [])] := by
  simp [strsD, List.getD_eq_getElem?_getD, List.getElem?_map, List.getElem?_eq_getElem h]
theorem strsD_inj {l m : List (List UInt8)} : strsD l = strsD m ↔ l = m := by
  constructor
  · intro h
    have hf : Function.Injective (fun s : List UInt8 => ([.str s] : List Data)) := fun a b e => by simpa using e
    exact (List.map_inj_right (fun a b e => hf e)).1 h
  · rintro rfl; rfl
theorem RE.strs {w : World} {J : Cset} : ∀ (l : List (List UInt8)) (b o : Nat), RE w J 1 (strsD l) b o → ∀ j s, l[j]? = some s → w.cell? ⟨b, o + j, none⟩ = some (.string ⟨s.toArray⟩) ∧ J b (o + j)
  | [], b, o, h, j, s, hj => by simp at hj
  | x :: l, b, o, h, j, s, hj => by
    simp only [strsD, List.map_cons, RE, RC, RV] at h
    obtain ⟨_, ⟨⟨v, h1, h2, _, h3⟩, _⟩, hr⟩ := h
    cases j with
    | zero =>
      simp only [List.getElem?_cons_zero, Option.some.injEq] at hj; subst hj
      exact ⟨by rw [Nat.add_zero, h1, h3], h2⟩
    | succ j =>
      have := RE.strs l b (o + 1) hr j s (by simpa using hj)
      rw [show o + (j + 1) = o + 1 + j by omega]
      exact this
theorem aftS_d {E : Env} {ρ : Option Nat} {l : Nat} {K : Exit → St → Prop} {s : St} {tm : Tm} {n : Nat} {ps : List Tmp} {a b c : Code} (hf : find s.h l = some (.loop tm n ps a b .done (some c))) (h : VC E ρ c (s.setB l (.loop tm n ps a b .exhausted (some c))) K) : aftS E ρ l K s := by
  unfold aftS
  rw [hf]
  exact h
theorem dropL_eq (l : Nat) : ∀ h : List (Nat × Blk), dropH [l] h = dropL l h
  | [] => rfl
  | x :: r => by
    have ih := dropL_eq l r
    simp only [dropH, List.foldl_cons, List.foldl_nil] at ih ⊢
    rw [List.filter_cons, dropL, ← ih]
    by_cases h : x.1 = l
    · simp [h]
    · simp [h]
theorem pureS_one {P : Program} {rs : List ResultVar} {res : List Data} {n l : Nat} {tm : Tm} {s : List Fr} {h : List (Nat × Blk)} (hf : find h l = some .defer) (h4 : pureR P rs res ⟨⟨n, tm, [l]⟩, s, dropL l h⟩) : pureS P rs res ⟨⟨n, tm, [l]⟩, s, h⟩ :=
  pureS_intro (by simpa using hf) (by simp) (dropL_eq l h) h4
def ownR (P : Program) (rs : List ResultVar) (e sz : Nat) (row : List (List Data)) (rest : List Data) (s : St) : Prop :=
  match resD P s rs with
  | some (.nilsl :: ds) => 0 < sz ∧ row = [] ∧ datsOf ds = some rest
  | some (.sl l o n :: ds) => o = 0 ∧ n = row.length ∧ find s.h l = some (.arr e sz row 0) ∧ datsOf ds = some rest
  | _ => False
theorem ownK_r {P : Program} {rs : List ResultVar} {e sz : Nat} {row : List (List Data)} {rest : List Data} {s : St} (h : ownS P rs e sz row rest s) : ownK P rs e sz row rest .ret s := h
theorem ownS_intro {P : Program} {rs : List ResultVar} {e sz : Nat} {row : List (List Data)} {rest : List Data} {s : St} {h' : List (Nat × Blk)} (h1 : ∀ l ∈ s.c.m, find s.h l = some .defer) (h2 : s.c.m.Nodup) (h3 : dropH s.c.m s.h = h') (h4 : ownR P rs e sz row rest ⟨s.c, s.s, h'⟩) : ownS P rs e sz row rest s :=
  ⟨h1, h2, by rw [h3]; exact h4⟩
theorem ownS_marks {P : Program} {rs : List ResultVar} {e sz : Nat} {row : List (List Data)} {rest : List Data} {n k : Nat} {tm : Tm} {s : List Fr} {h h' : List (Nat × Blk)} (he : h' = h ++ marksH k) (hh : ∀ x ∈ h, x.1 < 100) (h4 : ownR P rs e sz row rest ⟨⟨n, tm, marks k⟩, s, h⟩) : ownS P rs e sz row rest ⟨⟨n, tm, marks k⟩, s, h'⟩ := by
  subst he
  exact ownS_intro (defers_all hh) (marks_nodup k) (dropH_marks k h hh) h4
theorem ownS_one {P : Program} {rs : List ResultVar} {e sz : Nat} {row : List (List Data)} {rest : List Data} {n l : Nat} {tm : Tm} {s : List Fr} {h : List (Nat × Blk)} (hf : find h l = some .defer) (h4 : ownR P rs e sz row rest ⟨⟨n, tm, [l]⟩, s, dropL l h⟩) : ownS P rs e sz row rest ⟨⟨n, tm, [l]⟩, s, h⟩ :=
  ownS_intro (by simpa using hf) (by simp) (dropL_eq l h) h4
attribute [go_sem] ownR
end Go.Proofs.YtgfadocohpinmaaDoor.Vm


/- An abstract machine over values, that the program's machine follows it, and its rules (X03). No condition. -/
import Derived.Test.YtpajpkbipagjpaaGreatDoorX02
import Derived.ChangeSlices
import Derived.WideShapes
import Derived.DataReads
import Derived.ChangeArms
import Derived.OpenShut
import GoSem.ClaimChange
import Derived.IntWalk
set_option linter.unusedVariables false
set_option linter.unusedSimpArgs false
namespace Go.Proofs.YtpajpkbipagjpaaGreatDoor.Vm
open Go Go.RowKit
def All (W : World) : Cset := fun b _ => b < W.heap.size
theorem bytes_of (zs : List Int) (h : ∀ n ∈ zs, (Lit.int .u8 n).wf = true) : ∃ l : List UInt8, (zs.map fun z => ([.int .u8 z] : List Data)) = bytesD l ∧ l.length = zs.length := by
 refine ⟨zs.map fun z => UInt8.ofNat z.toNat, ?_, by simp⟩
 unfold bytesD
 rw [List.map_map]
 refine List.map_congr_left fun z hz => ?_
 have := h z hz
 simp [Lit.wf, IntKind.min, IntKind.max, IntKind.bits, IntKind.signed] at this
 simp only [Function.comp, UInt8.toNat_ofNat']
 rw [Nat.mod_eq_of_lt (by omega)]
 simp; omega
end Go.Proofs.YtpajpkbipagjpaaGreatDoor.Vm
namespace Go.Proofs.YtpajpkbipagjpaaGreatDoor.Vm
open Go
end Go.Proofs.YtpajpkbipagjpaaGreatDoor.Vm
namespace Go.Proofs.YtpajpkbipagjpaaGreatDoor.Vm
open Go
theorem Ent.frzT {s s' : St} {t : Nat} {d : D} {x : Data} (h : look s.c.t t = d) (hz : frz s d = some (x, s')) : Ent s (s'.put t (.dat x)) := fun Γ a as β w S => by
 obtain ⟨hA, hv⟩ := frz_ok d S (h ▸ S.get t) hz
 exact ⟨β, hA.1.know (by simpa [RVD] using hv)⟩
theorem Ent.move {s : St} (t l l' : Nat) {o n e sz fz : Nat} {xs : List (List Data)} (hm : s.noMark l) (hm' : s.noMark l') (ht : look s.c.t t = .sl l o n) (hf : find s.h l = some (.arr e sz xs fz)) : Ent s (((s.erase l).add l' (.arr e sz xs fz)).put t (.sl l' o n)) := fun Γ a as β w S => by
 have h := S.get t
 rw [ht] at h
 refine ⟨_, (S.rename hf hm hm').1.know ?_⟩
 simp only [RVD, upd_same] at h ⊢
 exact h
end Go.Proofs.YtpajpkbipagjpaaGreatDoor.Vm
namespace Go.Proofs.YtpajpkbipagjpaaGreatDoor.Vm
open Go Go.RowKit
structure OFn where
 pre : List Data → Prop
 e : Nat
 sz : Nat
 row : List Data → List (List Data)
 rest : List Data → List Data
def FreshO (J : Cset) (w w' : World) (pl : Pl) : Cset := fun b o => J b o ∨ (w.heap.size ≤ b ∧ b < w'.heap.size ∧ ∀ c s, pl ≠ .blk b c s)
def RowOK (w w' : World) (I : Cset) (pl : Pl) (e sz : Nat) (xs : List (List Data)) : Prop :=
 0 < sz ∧ (∀ x ∈ xs, x.length = sz) ∧ ((pl = .nil ∧ xs = []) ∨
  ∃ b cap cur, pl = .blk b cap sz ∧ w.heap.size ≤ b ∧ w'.heap[b]? = some (.cells cur e (0, 0)) ∧ xs.length ≤ cap ∧ cap ≤ maxLen ∧ cur.size = cap * sz ∧
   ∀ (j : Nat) (d : Data), xs.flatten[j]? = some d → d.one = true ∧ ∃ v, cur[j]? = some v ∧ RV w' I d v)
def rowD (l : Nat) (xs : List (List Data)) (rest : List Data) : D := tupD (.sl l 0 xs.length :: rest.map .dat)
def Own (E : Env) (f : Nat) (p : OFn) : Prop := ∀ (w : World) (J : Cset) (args : Array Value) (ds : List Data), (∀ b o, J b o → b < w.heap.size) → Glob E w J → RVs w J ds args.toList → p.pre ds →
 CallsIn (Fw none) 0 E.P f args w fun e w' => ∃ v pl, e = .returned v ∧ Below w.heap.size w w' ∧ RowOK w w' (FreshO J w w' pl) pl p.e p.sz (p.row ds) ∧ RVD w' (FreshO J w w' pl) (fun _ => pl) (rowD 0 (p.row ds) (p.rest ds)) v
theorem dats_beta {w : World} {I : Cset} {β β' : Nat → Pl} : ∀ {ds : List Data} {vs : List Value}, RVDs w I β (ds.map .dat) vs → RVDs w I β' (ds.map .dat) vs
 | [], vs, h => h
 | d :: ds, vs, h => by
   simp only [List.map_cons, RVDs] at h ⊢
   obtain ⟨v, r, rfl, h1, h2⟩ := h
   exact ⟨v, r, rfl, h1, dats_beta h2⟩
theorem rowD_name {w : World} {I : Cset} {β β' : Nat → Pl} {l l' : Nat} {xs : List (List Data)} {rest : List Data} {v : Value} (hb : β' l' = β l) (h : RVD w I β (rowD l xs rest) v) : RVD w I β' (rowD l' xs rest) v := by
 have key : ∀ u, RVD w I β (.sl l 0 xs.length) u → RVD w I β' (.sl l' 0 xs.length) u := by
  intro u hu
  simp only [RVD, hb] at hu ⊢
  exact hu
 unfold rowD at h ⊢
 cases rest with
 | nil => exact key v h
 | cons r rs =>
   simp only [List.map_cons, tupD, RVD] at h ⊢
   obtain ⟨vs, rfl, h⟩ := h
   refine ⟨vs, rfl, ?_⟩
   rw [RVDs] at h ⊢
   obtain ⟨u, r', e, h1, h2⟩ := h
   exact ⟨u, r', e, key u h1, dats_beta (ds := _ :: _) h2⟩
section
variable {Γ : Ctx} {st : St} {a : Act} {as : List Act} {β : Nat → Pl} {w : World}
theorem Sim.adopt (S : Sim Γ st a as β w) {w' : World} (hw : Below w.heap.size w w') {l e sz : Nat} {xs : List (List Data)} {pl : Pl} (hm : st.noMark l)
 (hR : RowOK w w' (FreshO (Im Γ β st.h w) w w' pl) pl e sz xs) :
 Sim Γ (st.add l (.arr e sz xs 0)) a as (upd β l pl) w' ∧ Keeps w' (FreshO (Im Γ β st.h w) w w' pl) w' (Im Γ (upd β l pl) (st.add l (.arr e sz xs 0)).h w') := by
 obtain ⟨S2, K2⟩ := S.called hw
 have hβ : ∀ k, k ≠ l → upd β l pl k = β k := upd_ne
 have hge : ∀ b c s, pl = .blk b c s → w.heap.size ≤ b := by
  obtain ⟨_, _, h⟩ := hR
  rcases h with ⟨h, _⟩ | ⟨b0, cap, cur, h, h1, _⟩
  ·intro b c s e; rw [h] at e; cases e
  ·intro b c s e; rw [h] at e; injection e with e; subst e; exact h1
 have hfind : ∀ k B, find (st.add l (.arr e sz xs 0)).h k = some B → (k = l ∧ B = .arr e sz xs 0) ∨ (k ≠ l ∧ ∃ B0, find st.h k = some B0 ∧ B = B0.erase l) := by
  intro k B h
  simp only [St.add, find_cons, find_hErase] at h
  by_cases e : l = k
  ·rw [if_pos e] at h; cases h; exact .inl ⟨e.symm, rfl⟩
  ·rw [if_neg e, if_neg (fun h => e h.symm)] at h
   obtain ⟨B1, h0, h1⟩ := Option.map_eq_some_iff.1 h
   exact .inr ⟨fun h => e h.symm, B1, h0, h1.symm⟩
 have K : Keeps w' (FreshO (Im Γ β st.h w) w w' pl) w' (Im Γ (upd β l pl) (st.add l (.arr e sz xs 0)).h w') := by
  intro b o h
  refine ⟨?_, rfl⟩
  have old : ∀ k B, find (st.add l (.arr e sz xs 0)).h k = some B → Mut (upd β l pl) k B b o → (∃ c s, pl = .blk b c s) ∨ ∃ B0, find st.h k = some B0 ∧ Mut β k B0 b o := by
   intro k B hB hmu
   rcases hfind k B hB with ⟨rfl, rfl⟩ | ⟨hk, B0, h0, rfl⟩
   ·simp only [Mut, upd_same] at hmu
    obtain ⟨c, s, h, _⟩ := hmu
    exact .inl ⟨c, s, h⟩
   ·exact .inr ⟨B0, h0, (Mut.erase (hβ k hk) B0 b o).1 hmu⟩
  rcases h with h | ⟨h1, h2, h3⟩
  ·have hlt : b < w.heap.size := by
    rcases h with h | h
    ·exact Nat.lt_of_lt_of_le (S.hJ b o h) S.below.size
    ·exact h.2.1
   rcases (K2 b o h).1 with h' | ⟨g1, g2, g3⟩
   ·exact .inl h'
   ·refine .inr ⟨g1, g2, fun k B hB hmu => ?_⟩
    rcases old k B hB hmu with ⟨c, s, hp⟩ | ⟨B0, h0, hmu⟩
    ·have := hge b c s hp; omega
    ·exact g3 k B0 h0 hmu
  ·refine .inr ⟨Nat.le_trans S.below.size h1, h2, fun k B hB hmu => ?_⟩
   rcases old k B hB hmu with ⟨c, s, hp⟩ | ⟨B0, h0, hmu⟩
   ·exact h3 c s hp
   ·obtain ⟨c, sz, hb⟩ := hmu.block
    have := (S.lt h0 hb).1
    omega
 have K3 : Keeps w (Im Γ β st.h w) w' (Im Γ (upd β l pl) (st.add l (.arr e sz xs 0)).h w') := fun b o h => ⟨(K b o (.inl h)).1, (K2 b o h).2⟩
 refine ⟨⟨S2.below, S.hJ, S.glob.keeps K3, ?_, (S.cur.keeps K3).erase hβ hm.1, (S.stk.keeps K3).erase hβ hm.2, ?_⟩, K⟩
 ·intro k k' B1 B2 b c c' s s' h1 h2 e1 e2
  rcases hfind k B1 h1 with ⟨rfl, rfl⟩ | ⟨hk, C1, f1, rfl⟩
  ·rw [upd_same] at e1
   rcases hfind k' B2 h2 with ⟨rfl, rfl⟩ | ⟨hk', C2, f2, rfl⟩
   ·rfl
   ·rw [hβ k' hk'] at e2
    have h3 := hge b c s e1
    have h4 := (S.lt f2 e2).1
    omega
  ·rw [hβ k hk] at e1
   rcases hfind k' B2 h2 with ⟨rfl, rfl⟩ | ⟨hk', C2, f2, rfl⟩
   ·rw [upd_same] at e2
    have h3 := hge b c' s' e2
    have h4 := (S.lt f1 e1).1
    omega
   ·exact S.apart k k' C1 C2 b c c' s s' f1 f2 e1 (by rw [← hβ k' hk']; exact e2)
 ·intro k B hB
  rcases hfind k B hB with ⟨rfl, rfl⟩ | ⟨hk, B0, h0, rfl⟩
  ·obtain ⟨q1, q3, q4⟩ := hR
   refine ⟨q1, Nat.zero_le _, q3, ?_⟩
   rw [upd_same]
   rcases q4 with q4 | ⟨b, cap, cur, h1, h2, h3, h4, h5, h6, h7⟩
   ·exact .inl q4
   ·refine .inr ⟨b, cap, cur, h1, Nat.le_trans S.below.size h2, h3, h4, h5, h6, fun j d hd => ?_⟩
    obtain ⟨r1, v, r2, r3⟩ := h7 j d hd
    exact ⟨r1, v, r2, r3.keeps K⟩
  ·exact (S.heap k B0 h0).carry K3 hβ hk fun b c sz hb => hw.block b (S.lt h0 hb).1
end
theorem VCcall.own {E : Env} {f : Nat} {p : OFn} {ds : List D} {st st1 : St} {K : D → St → Prop} {xs : List Data} (h : Own E f p) (l : Nat) (hz : frzs st ds = some (xs, st1)) (hp : p.pre xs) (hm : st1.noMark l)
 (hK : K (rowD l (p.row xs) (p.rest xs)) (st1.add l (.arr p.e p.sz (p.row xs) 0))) : VCcall E f ds st K := by
 intro Γ a as β w args hΓ S hargs
 subst hΓ
 obtain ⟨⟨S', K'⟩, hrv⟩ := frzs_ok ds S hargs hz
 have hI : ∀ b o, Im Γ β st1.h w b o → b < w.heap.size := by
  intro b o hi
  rcases hi with hi | hi
  ·exact Nat.lt_of_lt_of_le (S'.hJ b o hi) S'.below.size
  ·exact hi.2.1
 refine (h w _ args xs hI S'.glob hrv hp).mono fun e w' he => ?_
 obtain ⟨v, pl, rfl, hb, hR, hv⟩ := he
 obtain ⟨S3, K3⟩ := S'.adopt hb hm hR
 exact ⟨v, _, _, _, rfl, S3, rowD_name (upd_same _ _ _) (RVD.keeps K3 _ _ hv), hK⟩
def datsOf : List D → Option (List Data)
 | [] => some []
 | .dat d :: r => (datsOf r).map (d :: ·)
 | _ => none
theorem datsOf_ok : ∀ {ds : List D} {xs : List Data}, datsOf ds = some xs → ds = xs.map .dat
 | [], xs, h => by simp only [datsOf, Option.some.injEq] at h; subst h; rfl
 | .dat d :: r, xs, h => by
   simp only [datsOf, Option.map_eq_some_iff] at h
   obtain ⟨ys, h1, rfl⟩ := h
   rw [datsOf_ok h1]; rfl
 | .nilsl :: r, xs, h => by simp [datsOf] at h
 | .ref _ _ :: r, xs, h => by simp [datsOf] at h
 | .sl _ _ _ :: r, xs, h => by simp [datsOf] at h
 | .eref _ _ _ :: r, xs, h => by simp [datsOf] at h
 | .agg _ :: r, xs, h => by simp [datsOf] at h
 | .tup _ :: r, xs, h => by simp [datsOf] at h
 | .fn _ _ _ :: r, xs, h => by simp [datsOf] at h
 | .yld _ :: r, xs, h => by simp [datsOf] at h
 | .junk :: r, xs, h => by simp [datsOf] at h
def ownS (P : Program) (rs : List ResultVar) (e sz : Nat) (row : List (List Data)) (rest : List Data) (s : St) : Prop :=
 (∀ l ∈ s.c.m, find s.h l = some .defer) ∧ s.c.m.Nodup ∧
  match resD P ⟨s.c, s.s, dropH s.c.m s.h⟩ rs with
  | some (.nilsl :: ds) => 0 < sz ∧ row = [] ∧ datsOf ds = some rest
  | some (.sl l o n :: ds) => o = 0 ∧ n = row.length ∧ find (dropH s.c.m s.h) l = some (.arr e sz row 0) ∧ datsOf ds = some rest
  | _ => False
def ownK (P : Program) (rs : List ResultVar) (e sz : Nat) (row : List (List Data)) (rest : List Data) : Exit → St → Prop
 | .normal, s => ownS P rs e sz row rest s
 | .ret, s => ownS P rs e sz row rest s
 | _, _ => False
theorem Own.of_body {E : Env} {g : Nat} {pf : OFn} {fn : Func} {c : Code} {rs : List ResultVar} {n : Nat} (hf : E.P.funcs[g]? = some fn) (hb : fn.body = some c) (hrs : fn.results.toList = rs) (hnt : fn.ntmps = n)
 (h : ∀ ds, pf.pre ds → ds.length ≤ n ∧ VC E none c (pureSt n ds) (ownK E.P rs pf.e pf.sz (pf.row ds) (pf.rest ds))) : Own E g pf := by
 subst hrs
 subst hnt
 intro w J args ds hJ hG hargs hpre
 obtain ⟨hlen, hvc⟩ := h ds hpre
 let Γ : Ctx := ⟨E, w, J, fun _ => 0⟩
 have hK : Keeps w J w (Im Γ (fun _ => .nil) [] w) := fun b o hj => ⟨.inl hj, rfl⟩
 have S : Sim Γ (pureSt fn.ntmps ds) { tmps := args ++ Array.replicate (fn.ntmps - args.size) undef, defers := [] } [] (fun _ => .nil) w := by
  refine ⟨Below.refl _ _, hJ, hG.keeps hK, ?_, ?_, ?_, ?_⟩
  ·intro l l' B B' b c c' sz sz' h1; simp [pureSt, find] at h1
  ·exact enter_frame (RVs.dats (RVs.keeps hK _ _ hargs)) (by simpa using hlen)
  ·exact rfl
  ·intro l B hB; simp [pureSt, find] at hB
 refine callsIn_of_wp_marks hf hb trivial (wpIn_mono (hvc Γ _ [] _ w rfl S) ?_)
 rintro e a' w' ⟨s, β', S', k⟩
 have ret : ownS E.P fn.results.toList pf.e pf.sz (pf.row ds) (pf.rest ds) s → LeavesInM (Fw none) 0 E.P fn a'.tmps (fun e w' => ∃ v pl, e = .returned v ∧ Below w.heap.size w w' ∧ RowOK w w' (FreshO J w w' pl) pl pf.e pf.sz (pf.row ds) ∧ RVD w' (FreshO J w w' pl) (fun _ => pl) (rowD 0 (pf.row ds) (pf.rest ds)) v) a'.defers .returning w' := by
  rintro ⟨k1, k2, k3⟩
  rw [S'.cur.2.2]
  refine leaves_ok (Γ := Γ) s.c.m S' k1 k2 fun w'' S'' => ?_
  split at k3
  ·rename_i ds' hds
   obtain ⟨v, h1, h2⟩ := results_ok S'' (fn := fn) hds
   obtain ⟨k4, k5, k6⟩ := k3
   have k6 := datsOf_ok k6
   subst k6
   refine ⟨v, h1, v, .nil, rfl, S''.below, ⟨k4, by rw [k5]; simp, .inl ⟨rfl, k5⟩⟩, ?_⟩
   have hk : Keeps w'' (Im Γ β' (dropH s.c.m s.h) w'') w'' (FreshO J w w'' .nil) := by
    intro b o hi
    refine ⟨?_, rfl⟩
    rcases hi with hi | ⟨g1, g2, _⟩
    ·exact .inl hi
    ·exact .inr ⟨g1, g2, fun c s e => by cases e⟩
   have h3 := RVD.keeps hk _ _ h2
   have key : ∀ u, RVD w'' (FreshO J w w'' .nil) β' .nilsl u → RVD w'' (FreshO J w w'' .nil) (fun _ => .nil) (.sl 0 0 (pf.row ds).length) u := by
    intro u hu
    rw [k5]
    simp only [RVD] at hu
    obtain ⟨a, rfl⟩ := hu
    exact RVD.nilrow rfl a
   unfold rowD
   cases hr : pf.rest ds with
   | nil => rw [hr] at h3; exact key v h3
   | cons r rs =>
     rw [hr] at h3
     simp only [List.map_cons, tupD, RVD] at h3 ⊢
     obtain ⟨vs, rfl, h3⟩ := h3
     refine ⟨vs, rfl, ?_⟩
     rw [RVDs] at h3 ⊢
     obtain ⟨u, r', e, h1, h2⟩ := h3
     exact ⟨u, r', e, by simpa [RVD] using key u h1, dats_beta (ds := _ :: _) h2⟩
  ·rename_i l o n ds' hds
   obtain ⟨v, h1, h2⟩ := results_ok S'' (fn := fn) hds
   obtain ⟨rfl, rfl, k5, k6⟩ := k3
   have k6 := datsOf_ok k6
   subst k6
   obtain ⟨q1, q2, q3, q4⟩ := S''.heap l _ k5
   have hk : Keeps w'' (Im Γ β' (dropH s.c.m s.h) w'') w'' (FreshO J w w'' (β' l)) := by
    intro b o hi
    refine ⟨?_, rfl⟩
    rcases hi with hi | ⟨g1, g2, g3⟩
    ·exact .inl hi
    ·exact .inr ⟨g1, g2, fun c s e => g3 l _ k5 ⟨c, s, e, by simp⟩⟩
   refine ⟨v, h1, v, β' l, rfl, S''.below, ⟨q1, q3, ?_⟩, ?_⟩
   ·rcases q4 with q4 | ⟨b, cap, cur, h1, h2, h3, h4, h5, h6, h7⟩
    ·exact .inl q4
    ·refine .inr ⟨b, cap, cur, h1, h2, h3, h4, h5, h6, fun j d hd => ?_⟩
     obtain ⟨r1, v, r2, r3⟩ := h7 j d hd
     exact ⟨r1, v, r2, r3.keeps hk⟩
   ·exact rowD_name (β := β') (β' := fun _ => β' l) (l := l) (l' := 0) rfl (RVD.keeps hk _ _ h2)
  ·exact k3.elim
 cases e with
 | normal => exact ret k
 | ret => exact ret k
 | _ => exact k.elim
end Go.Proofs.YtpajpkbipagjpaaGreatDoor.Vm
namespace Go.Proofs.YtpajpkbipagjpaaGreatDoor.Vm
open Go Go.RowKit
theorem FreshO.keeps {J : Cset} {w w' : World} {pl : Pl} : Keeps w' (FreshO J w w' pl) w' (Fresh J w w') := fun b o h => ⟨h.imp id fun h => ⟨h.1, h.2.1⟩, rfl⟩
theorem RowOK.shut {J : Cset} {w w' : World} {pl : Pl} {e sz : Nat} {xs : List (List Data)} (h : RowOK w w' (FreshO J w w' pl) pl e sz xs) {v : Value} (hv : RVD w' (FreshO J w w' pl) (fun _ => pl) (.sl 0 0 xs.length) v) :
 RV w' (Fresh J w w') (.lst xs) v := by
 obtain ⟨p1, p3, p4⟩ := h
 simp only [RVD] at hv
 simp only [RV]
 rcases hv with ⟨hb, _, hn, a, rfl⟩ | ⟨b, c, sz', ad, hb, hle, rfl, had⟩
 ·exact ⟨a, 0, 0, rfl, hn.symm, Nat.le_refl _, .inl (List.eq_nil_of_length_eq_zero hn)⟩
 ·rcases p4 with ⟨q, _⟩ | ⟨b', cap, cur, hb', hge, hh, hn', hm, hcs, hcells⟩
  ·rw [hb] at q; cases q
  ·rw [hb] at hb'; injection hb' with e1 e2 e3; subst e1 e2 e3
   refine ⟨ad, xs.length, c - 0, rfl, rfl, by omega, ?_⟩
   by_cases hn0 : xs.length = 0
   ·exact .inl (List.eq_nil_of_length_eq_zero hn0)
   ·right
    have had' : ad = some ⟨b, 0, none⟩ := by
     rcases had with g | g
     ·simpa using g
     ·omega
    have hlt : b < w'.heap.size := (Array.getElem?_eq_some_iff.1 hh).1
    refine ⟨b, 0, sz', had', p1, RE.mk fun i x hi => ?_⟩
    have hio := (List.getElem?_eq_some_iff.1 hi).1
    have hxl : x.length = sz' := p3 x (List.mem_of_getElem? hi)
    refine ⟨hxl, RC.mk fun j d hj => ?_⟩
    have hjl := (List.getElem?_eq_some_iff.1 hj).1
    have hflat : xs.flatten[i * sz' + j]? = some d := by
     rw [flatten_get p3 hio (by omega), ← hj]
     rw [List.getElem?_eq_getElem hio] at hi
     rw [Option.some.inj hi]
    obtain ⟨h1, u, hu, hr⟩ := hcells _ d hflat
    refine ⟨u, ?_, .inr ⟨hge, hlt⟩, h1, hr.keeps FreshO.keeps⟩
    rw [show 0 + i * sz' + j = i * sz' + j by omega]
    simp only [World.cell?, hh, Option.isSome_none, Bool.false_eq_true, if_false]
    exact hu
def OFn.shut (p : OFn) : PFn := ⟨p.pre, fun ds => .lst (p.row ds) :: p.rest ds⟩
theorem Own.pure {E : Env} {f : Nat} {p : OFn} (h : Own E f p) : Pure E f p.shut := by
 intro w J args ds hJ hG hargs hpre
 refine (h w J args ds hJ hG hargs hpre).mono fun e w' he => ?_
 obtain ⟨v, pl, rfl, hb, hR, hv⟩ := he
 refine ⟨v, rfl, hb, ?_⟩
 show RVD w' (Fresh J w w') (fun _ => .nil) (retD (.lst (p.row ds) :: p.rest ds)) v
 unfold rowD at hv
 cases hr : p.rest ds with
 | nil => rw [hr] at hv; exact hR.shut hv
 | cons r rs =>
   rw [hr] at hv
   simp only [List.map_cons, tupD, RVD] at hv
   simp only [retD, List.map_cons, RVD]
   obtain ⟨vs, rfl, hv⟩ := hv
   refine ⟨vs, rfl, ?_⟩
   rw [RVDs] at hv ⊢
   obtain ⟨u, r', e, h1, h2⟩ := hv
   refine ⟨u, r', e, ?_, dats_beta (ds := _ :: _) (RVDs.keeps FreshO.keeps _ _ h2)⟩
   simpa only [RVD] using hR.shut h1
section
variable {α : Type} {A : α → List Data} {pre : α → Prop} {e sz : Nat} {row : α → List (List Data)} {rest : α → List Data}
end
attribute [go_sem] ownK ownS datsOf rowD tupD OFn.shut
end Go.Proofs.YtpajpkbipagjpaaGreatDoor.Vm
namespace Go.Proofs.YtpajpkbipagjpaaGreatDoor.Vm
open Go Go.RowKit
theorem Pure.of_calls {E : Env} {f : Nat} {α : Type} {A : α → List Data} {pre : α → Prop} {res : α → List Data} (hA : ∀ x y, A x = A y → x = y)
 (h : ∀ (w : World) (J : Cset) (args : Array Value) (x : α), (∀ b o, J b o → b < w.heap.size) → Glob E w J → RVs w J (A x) args.toList → pre x →
 Calls E.P f args w fun e w' => ∃ v, e = .returned v ∧ Below w.heap.size w w' ∧ RVD w' (Fresh J w w') (fun _ => .nil) (retD (res x)) v) : Pure E f (PFn.of A pre res) := by
 intro w J args ds hJ hG hargs hpre
 obtain ⟨x, rfl, hx⟩ := hpre
 rw [PFn.of_res hA]
 exact callsIn_wide.2 (h w J args x hJ hG hargs hx)
theorem args1 {w : World} {J : Cset} {d : Data} {args : Array Value} (h : RVs w J [d] args.toList) : ∃ v, args = #[v] ∧ RV w J d v := by
 simp only [RVs] at h
 obtain ⟨v, r, e, h1, rfl⟩ := h
 exact ⟨v, Array.ext' (by rw [e]), h1⟩
theorem args2 {w : World} {J : Cset} {d d2 : Data} {args : Array Value} (h : RVs w J [d, d2] args.toList) : ∃ v v2, args = #[v, v2] ∧ RV w J d v ∧ RV w J d2 v2 := by
 simp only [RVs] at h
 obtain ⟨v, r, e, h1, v2, r2, e2, h2, rfl⟩ := h
 exact ⟨v, v2, Array.ext' (by rw [e, e2]), h1, h2⟩
theorem args3 {w : World} {J : Cset} {d d2 d3 : Data} {args : Array Value} (h : RVs w J [d, d2, d3] args.toList) : ∃ v v2 v3, args = #[v, v2, v3] ∧ RV w J d v ∧ RV w J d2 v2 ∧ RV w J d3 v3 := by
 simp only [RVs] at h
 obtain ⟨v, r, e, h1, v2, r2, e2, h2, v3, r3, e3, h3, rfl⟩ := h
 exact ⟨v, v2, v3, Array.ext' (by rw [e, e2, e3]), h1, h2, h3⟩
theorem args5 {w : World} {J : Cset} {d d2 d3 d4 d5 : Data} {args : Array Value} (h : RVs w J [d, d2, d3, d4, d5] args.toList) : ∃ v v2 v3 v4 v5, args = #[v, v2, v3, v4, v5] ∧ RV w J d v ∧ RV w J d2 v2 ∧ RV w J d3 v3 ∧ RV w J d4 v4 ∧ RV w J d5 v5 := by
 simp only [RVs] at h
 obtain ⟨v, r, e, h1, v2, r2, e2, h2, v3, r3, e3, h3, v4, r4, e4, h4, v5, r5, e5, h5, rfl⟩ := h
 exact ⟨v, v2, v3, v4, v5, Array.ext' (by rw [e, e2, e3, e4, e5]), h1, h2, h3, h4, h5⟩
theorem numsD_take_len (l : List Nat) : (numsD l).take l.length = numsD l := List.take_of_length_le (by rw [numsD_len]; exact Nat.le_refl _)
def strsD (l : List (List UInt8)) : List (List Data) := l.map fun s => [.str s]
@[go_sem] theorem strsD_len (l : List (List UInt8)) : (strsD l).length = l.length := by simp [strsD]
theorem strsD_inj {l m : List (List UInt8)} : strsD l = strsD m ↔ l = m := by
 constructor
 ·intro h
  have hf : Function.Injective (fun s : List UInt8 => ([.str s] : List Data)) := fun a b e => by simpa using e
  exact (List.map_inj_right (fun a b e => hf e)).1 h
 ·rintro rfl; rfl
theorem RE.strs {w : World} {J : Cset} : ∀ (l : List (List UInt8)) (b o : Nat), RE w J 1 (strsD l) b o → ∀ j s, l[j]? = some s → w.cell? ⟨b, o + j, none⟩ = some (.string ⟨s.toArray⟩) ∧ J b (o + j)
 | [], b, o, h, j, s, hj => by simp at hj
 | x :: l, b, o, h, j, s, hj => by
   simp only [strsD, List.map_cons, RE, RC, RV] at h
   obtain ⟨_, ⟨⟨v, h1, h2, _, h3⟩, _⟩, hr⟩ := h
   cases j with
   | zero =>
     simp only [List.getElem?_cons_zero, Option.some.injEq] at hj; subst hj
     exact ⟨by rw [Nat.add_zero, h1, h3], h2⟩
   | succ j =>
     have := RE.strs l b (o + 1) hr j s (by simpa using hj)
     rw [show o + (j + 1) = o + 1 + j by omega]
     exact this
theorem dropL_eq (l : Nat) : ∀ h : List (Nat × Blk), dropH [l] h = dropL l h
 | [] => rfl
 | x :: r => by
   have ih := dropL_eq l r
   simp only [dropH, List.foldl_cons, List.foldl_nil] at ih ⊢
   rw [List.filter_cons, dropL, ← ih]
   by_cases h : x.1 = l
   ·simp [h]
   ·simp [h]
theorem pureS_one {P : Program} {rs : List ResultVar} {res : List Data} {n l : Nat} {tm : Tm} {s : List Fr} {h : List (Nat × Blk)} (hf : find h l = some .defer) (h4 : pureR P rs res ⟨⟨n, tm, [l]⟩, s, dropL l h⟩) : pureS P rs res ⟨⟨n, tm, [l]⟩, s, h⟩ :=
 pureS_intro (by simpa using hf) (by simp) (dropL_eq l h) h4
def ownR (P : Program) (rs : List ResultVar) (e sz : Nat) (row : List (List Data)) (rest : List Data) (s : St) : Prop :=
 match resD P s rs with
 | some (.nilsl :: ds) => 0 < sz ∧ row = [] ∧ datsOf ds = some rest
 | some (.sl l o n :: ds) => o = 0 ∧ n = row.length ∧ find s.h l = some (.arr e sz row 0) ∧ datsOf ds = some rest
 | _ => False
theorem ownK_r {P : Program} {rs : List ResultVar} {e sz : Nat} {row : List (List Data)} {rest : List Data} {s : St} (h : ownS P rs e sz row rest s) : ownK P rs e sz row rest .ret s := h
theorem ownS_intro {P : Program} {rs : List ResultVar} {e sz : Nat} {row : List (List Data)} {rest : List Data} {s : St} {h' : List (Nat × Blk)} (h1 : ∀ l ∈ s.c.m, find s.h l = some .defer) (h2 : s.c.m.Nodup) (h3 : dropH s.c.m s.h = h') (h4 : ownR P rs e sz row rest ⟨s.c, s.s, h'⟩) : ownS P rs e sz row rest s :=
 ⟨h1, h2, by rw [h3]; exact h4⟩
theorem ownS_marks {P : Program} {rs : List ResultVar} {e sz : Nat} {row : List (List Data)} {rest : List Data} {n k : Nat} {tm : Tm} {s : List Fr} {h h' : List (Nat × Blk)} (he : h' = h ++ marksH k) (hh : ∀ x ∈ h, x.1 < 100) (h4 : ownR P rs e sz row rest ⟨⟨n, tm, marks k⟩, s, h⟩) : ownS P rs e sz row rest ⟨⟨n, tm, marks k⟩, s, h'⟩ := by
 subst he
 exact ownS_intro (defers_all hh) (marks_nodup k) (dropH_marks k h hh) h4
attribute [go_sem] ownR
end Go.Proofs.YtpajpkbipagjpaaGreatDoor.Vm
namespace Go.Proofs.YtpajpkbipagjpaaGreatDoor.Vm
open Go Go.RowKit
section
variable {E : Env} {st st' : St} (hm : ∀ k B, find st.h k = some B → find st'.h k = some B)
include hm
end
section
variable {Γ : Ctx} {st : St} {as : List Act} {Φ : Fns} {ρ : Option Nat} {Q : Exit → Act → World → Prop} {ops : Array Oper} {q : Nat} {K : St → Prop}
end
section
variable {E : Env} {Φ : Fns} {ρ : Option Nat} {st : St} {K : Exit → St → Prop}
end
end Go.Proofs.YtpajpkbipagjpaaGreatDoor.Vm
namespace Go.Proofs.YtpajpkbipagjpaaGreatDoor.Vm
open Go Go.RowKit
def closedT (P : Program) (S : List TypeId) : Bool := S.all fun t => match P.underlying t with
 | some .bool => true
 | some (.int _) => true
 | some .string => true
 | some (.slice e) => S.contains e && decide (0 < P.cellsOf e)
 | some (.struct fs) => fs.toList.all (fun f => S.contains f.type) && tiledB P (P.cellsOf t) 0 fs.toList
 | some (.array n e) => S.contains e && decide (P.cellsOf t = n * P.cellsOf e)
 | _ => false
where tiledB (P : Program) (total : Nat) : Nat → List Field → Bool
 | k, [] => decide (k = total)
 | k, f :: r => decide (f.offset = k) && tiledB P total (k + P.cellsOf f.type) r
def CT (P : Program) : Nat → TypeId → List Data → Prop
 | 0, _, _ => False
 | n + 1, t, ds => match P.underlying t with
   | some .bool => ∃ b, ds = [.bool b]
   | some (.int k) => ∃ i, ds = [.int k i] ∧ (Lit.int k i).wf = true
   | some .string => ∃ s, ds = [.str s] ∧ s.length ≤ maxLen
   | some (.slice e) => ∃ xs, ds = [.lst xs] ∧ xs.length ≤ maxLen ∧ ∀ x ∈ xs, CT P n e x
   | some (.struct fs) => ds.length = P.cellsOf t ∧ ∀ f ∈ fs.toList, CT P n f.type ((ds.drop f.offset).take (P.cellsOf f.type))
   | some (.array m e) => ds.length = P.cellsOf t ∧ ∀ i, i < m → CT P n e ((ds.drop (i * P.cellsOf e)).take (P.cellsOf e))
   | _ => False
mutual
def bk : Data → Nat
 | .str s => s.length + 1
 | .lst xs => bkE xs + 1
 | .agg cs => bkC cs + 1
 | .bool _ => 1
 | .int _ _ => 1
 | .nilp => 1
 | .ptr _ => 1
 | .fn _ => 1
 | .nilf => 1
 | .iface _ _ => 1
 | .nili => 1
def bkC : List Data → Nat
 | [] => 0
 | d :: r => bk d + bkC r
def bkE : List (List Data) → Nat
 | [] => 0
 | x :: r => bkC x + bkE r
end
theorem bkC_append : ∀ (a b : List Data), bkC (a ++ b) = bkC a + bkC b
 | [], b => by simp [bkC]
 | d :: a, b => by simp only [List.cons_append, bkC, bkC_append a b]; omega
structure Bulk {H : Type} (B : DataW H → Nat) (BA : List (DataW H) → Nat) : Prop where
 lit : ∀ l, 1 ≤ B (.lit l)
 str : ∀ s, s.length + 1 ≤ B (.lit (.string s))
 nil : 1 ≤ B .nil
 slice : ∀ xs ys, BA xs + 1 ≤ B (.slice xs ys)
 agg : ∀ xs, BA xs ≤ B (.agg xs)
 cons : ∀ d r, B d + BA r ≤ BA (d :: r)
theorem RVs.append {w : World} {I : Cset} : ∀ {as : List Data} {us : List Value} {bs : List Data} {vs : List Value}, RVs w I as us → RVs w I bs vs → RVs w I (as ++ bs) (us ++ vs)
 | [], us, bs, vs, h, k => by simp only [RVs] at h; subst h; exact k
 | a :: as, us, bs, vs, h, k => by
   simp only [RVs] at h
   obtain ⟨v, r, rfl, h1, h2⟩ := h
   exact ⟨v, r ++ vs, rfl, h1, RVs.append h2 k⟩
section
variable {H : Type} {enc : TypeId × Value → H} {P : Program} {w : World} {S : List TypeId} {B : DataW H → Nat} {BA : List (DataW H) → Nat}
def Told (P : Program) (w : World) (B : DataW H → Nat) (fuel : Nat) (t : TypeId) (cs : List Value) (d : DataW H) : Prop :=
 ∃ ds, CT P fuel t ds ∧ RVs w (All w) ds cs ∧ (∀ d ∈ ds, d.one = true) ∧ bkC ds ≤ B d
theorem RC_of {I : Cset} {b : Nat} : ∀ {ds : List Data} {cs : List Value} (o : Nat), RVs w I ds cs → (∀ d ∈ ds, d.one = true) → (∀ i, i < cs.length → w.cell? ⟨b, o + i, none⟩ = cs[i]?) → (∀ i, i < cs.length → I b (o + i)) → RC w I ds b o
 | [], cs, o, h, h1, h2, h3 => by simp only [RC]
 | d :: ds, cs, o, h, h1, h2, h3 => by
   simp only [RVs] at h
   obtain ⟨v, r, rfl, hv, hr⟩ := h
   simp only [RC]
   refine ⟨⟨v, by simpa using h2 0 (by simp), by simpa using h3 0 (by simp), h1 d (by simp), hv⟩, RC_of (o + 1) hr (fun d hd => h1 d (by simp [hd])) (fun i hi => ?_) (fun i hi => ?_)⟩
   ·have := h2 (i + 1) (by simp; omega)
    rw [show o + (i + 1) = o + 1 + i by omega] at this
    simpa using this
   ·have := h3 (i + 1) (by simp; omega)
    rwa [show o + (i + 1) = o + 1 + i by omega] at this
theorem cell_lt {b o : Nat} {v : Value} (h : w.cell? ⟨b, o, none⟩ = some v) : b < w.heap.size := by
 rcases Nat.lt_or_ge b w.heap.size with h' | h'
 ·exact h'
 ·simp [World.cell?, Array.getElem?_eq_none h'] at h
theorem spot_none {a : Addr} {v : Value} (h : w.cell? a = some v) : a.spot = none := by
 cases hs : a.spot with
 | none => rfl
 | some s =>
   simp only [World.cell?] at h
   split at h
   ·simp [hs] at h
   ·cases h
theorem told_fields (hB : Bulk B BA) {n : Nat} {cs : List Value} {total : Nat} : ∀ (fs : List Field) (xs : List (DataW H × List MemPlace)) (k : Nat), closedT.tiledB P total k fs = true → xs.length = fs.length → cs.length = total →
 (∀ (i : Nat) (f : Field) (x : DataW H × List MemPlace), fs[i]? = some f → xs[i]? = some x → Told P w B n f.type ((cs.drop f.offset).take (P.cellsOf f.type)) x.1) →
 ∃ ds, ds.length = total - k ∧ k ≤ total ∧ RVs w (All w) ds (cs.drop k) ∧ (∀ d ∈ ds, d.one = true) ∧ bkC ds ≤ BA (xs.map (·.1)) + 0 ∧ ∀ f ∈ fs, k ≤ f.offset ∧ CT P n f.type ((ds.drop (f.offset - k)).take (P.cellsOf f.type))
 | [], xs, k, ht, hx, hc, h => by
   simp only [closedT.tiledB, decide_eq_true_eq] at ht
   subst ht
   refine ⟨[], by simp, Nat.le_refl _, ?_, by simp, by simp [bkC], by simp⟩
   rw [List.drop_eq_nil_of_le (by omega)]
   simp only [RVs]
 | f :: fs, xs, k, ht, hx, hc, h => by
   simp only [closedT.tiledB, Bool.and_eq_true, decide_eq_true_eq] at ht
   cases xs with
   | nil => simp at hx
   | cons x xs =>
     obtain ⟨ho, ht⟩ := ht
     obtain ⟨ds2, e1, e2, e3, e4, e5, e6⟩ := told_fields hB fs xs _ ht (by simpa using hx) hc fun i f' x' hf hx' => h (i + 1) f' x' (by simpa using hf) (by simpa using hx')
     obtain ⟨ds1, c1, c2, c3, c4⟩ := h 0 f x rfl rfl
     rw [ho] at c2
     have hl : ds1.length = P.cellsOf f.type := by
      have := c2.length
      rw [List.length_take, List.length_drop] at this
      omega
     refine ⟨ds1 ++ ds2, by simp; omega, by omega, ?_, ?_, ?_, ?_⟩
     ·have := RVs.append c2 e3
      rw [← List.drop_drop, List.take_append_drop] at this
      exact this
     ·intro d hd
      rcases List.mem_append.1 hd with hd | hd
      ·exact c3 d hd
      ·exact e4 d hd
     ·rw [bkC_append]
      have := hB.cons x.1 (xs.map (·.1))
      simp only [List.map_cons]
      omega
     ·intro g hg
      rcases List.mem_cons.1 hg with rfl | hg
      ·refine ⟨by omega, ?_⟩
       rw [ho, Nat.sub_self, List.drop_zero, ← hl, List.take_left]
       exact c1
      ·obtain ⟨q1, q2⟩ := e6 g hg
       refine ⟨by omega, ?_⟩
       rw [show g.offset - k = ds1.length + (g.offset - (k + P.cellsOf f.type)) by omega, ← List.drop_drop, List.drop_left]
       exact q2
theorem told_rows (hB : Bulk B BA) {n sz : Nat} {e : TypeId} (hsz : P.cellsOf e = sz) {cs : List Value} : ∀ (m : Nat) (xs : List (DataW H × List MemPlace)) (k : Nat), xs.length = m → cs.length = (k + m) * sz →
 (∀ (i : Nat) (x : DataW H × List MemPlace), xs[i]? = some x → Told P w B n e ((cs.drop ((k + i) * sz)).take sz) x.1) →
 ∃ ds, ds.length = m * sz ∧ RVs w (All w) ds (cs.drop (k * sz)) ∧ (∀ d ∈ ds, d.one = true) ∧ bkC ds ≤ BA (xs.map (·.1)) + 0 ∧ ∀ i, i < m → CT P n e ((ds.drop (i * sz)).take sz)
 | 0, xs, k, hx, hc, h => by
   obtain rfl : xs = [] := List.eq_nil_of_length_eq_zero hx
   refine ⟨[], by simp, ?_, by simp, by simp [bkC], by simp⟩
   rw [List.drop_eq_nil_of_le (by simp at hc; omega)]
   simp only [RVs]
 | m + 1, xs, k, hx, hc, h => by
   cases xs with
   | nil => simp at hx
   | cons x xs =>
     obtain ⟨ds2, e1, e3, e4, e5, e6⟩ := told_rows hB hsz m xs (k + 1) (by simpa using hx) (by rw [hc]; congr 1; omega) fun i x' hx' => by
      rw [show k + 1 + i = k + (i + 1) by omega]
      exact h (i + 1) x' (by simpa using hx')
     obtain ⟨ds1, c1, c2, c3, c4⟩ := h 0 x rfl
     rw [Nat.add_zero] at c2
     have hl : ds1.length = sz := by
      have := c2.length
      rw [List.length_take, List.length_drop, hc, ← Nat.sub_mul, show k + (m + 1) - k = m + 1 by omega, Nat.succ_mul] at this
      omega
     refine ⟨ds1 ++ ds2, by rw [List.length_append, e1, hl, Nat.succ_mul]; omega, ?_, ?_, ?_, ?_⟩
     ·have := RVs.append c2 e3
      rw [show (k + 1) * sz = k * sz + sz by rw [Nat.succ_mul], ← List.drop_drop, List.take_append_drop] at this
      exact this
     ·intro d hd
      rcases List.mem_append.1 hd with hd | hd
      ·exact c3 d hd
      ·exact e4 d hd
     ·rw [bkC_append]
      have := hB.cons x.1 (xs.map (·.1))
      simp only [List.map_cons]
      omega
     ·intro i hi
      cases i with
      | zero => rw [Nat.zero_mul, List.drop_zero, ← hl, List.take_left]; exact c1
      | succ i =>
        rw [show (i + 1) * sz = ds1.length + i * sz by rw [Nat.succ_mul]; omega, ← List.drop_drop, List.drop_left]
        exact e6 i (by omega)
theorem trod_told (hB : Bulk B BA) (hS : closedT P S = true) : ∀ (fuel : Nat) (t : TypeId) (cs : List Value) (x : DataW H × List MemPlace), t ∈ S → DataW.trod enc P w 0 (fun _ => true) true fuel t cs = some x → Told P w B fuel t cs x.1
 | 0, t, cs, x, ht, h => by simp [DataW.trod] at h
 | n + 1, t, cs, x, ht, h => by
   have hc := List.all_eq_true.1 hS t ht
   split at hc
   ·rename_i hu
    obtain ⟨b, rfl, rfl⟩ := DataW.trod_bool hu h
    exact ⟨[.bool b], by rw [CT, hu]; exact ⟨b, rfl⟩, by simp [RVs, RV], by simp [Data.one], by simpa [bkC, bk] using hB.lit _⟩
   ·rename_i k hu
    obtain ⟨i, rfl, rfl, hw⟩ := DataW.trod_int hu h
    exact ⟨[.int k i], by rw [CT, hu]; exact ⟨i, rfl, hw⟩, by simp [RVs, RV], by simp [Data.one], by simpa [bkC, bk] using hB.lit _⟩
   ·rename_i hu
    obtain ⟨s, rfl, rfl, hl⟩ := DataW.trod_string hu h
    refine ⟨[.str s.data.toList], by rw [CT, hu]; exact ⟨_, rfl, by simpa using hl⟩, by simp [RVs, RV], by simp [Data.one], ?_⟩
    have := hB.str s.data.toList
    simp only [bkC, bk]; omega
   ·rename_i e hu
    simp only [Bool.and_eq_true, List.contains_iff_mem, decide_eq_true_eq] at hc
    rcases DataW.trod_slice hu h with ⟨rfl, rfl⟩ | ⟨a, len, cap, elems, rest, m, hm, rfl, rfl, hb, hl, hcap, hlen, hel, hsp, hns⟩
    ·refine ⟨[.lst []], by rw [CT, hu]; exact ⟨[], rfl, by simp, by simp⟩, ?_, by simp [Data.one], by simpa [bkC, bk, bkE] using hB.nil⟩
     simp only [RVs]
     exact ⟨_, _, rfl, by simp only [RV]; exact ⟨none, 0, 0, rfl, rfl, Nat.le_refl _, .inl trivial⟩, rfl⟩
    ·obtain rfl : n = m := by omega
     have hsp0 : len ≠ 0 → a.spot = none := by
      intro hne
      have hb1 := hel 0 (by omega)
      rw [List.getElem?_eq_getElem (by omega), Option.bind_eq_some_iff, Nat.zero_mul] at hb1
      obtain ⟨cs', h1, h2⟩ := hb1
      obtain ⟨_, g2, g3⟩ := World.cells?_some h1
      have h0 := g3 0 hc.2
      rw [List.getElem?_eq_getElem (by omega)] at h0
      have := spot_none h0
      simpa [Addr.add] using this
     have key : ∀ (k : Nat) (l : List (DataW H × List MemPlace)), l = elems.drop k → k ≤ len → ∃ xs : List (List Data), xs.length = len - k ∧ (∀ x ∈ xs, CT P n e x) ∧ bkE xs ≤ BA (l.map (·.1)) + 0 ∧
      (xs = [] ∨ RE w (All w) (P.cellsOf e) xs a.block (a.off + k * P.cellsOf e)) := by
      intro k l
      induction l generalizing k with
      | nil =>
        intro hk hkl
        have : elems.length ≤ k := by
         rcases Nat.lt_or_ge k elems.length with h' | h'
         ·have := congrArg List.length hk; simp at this; omega
         ·exact h'
        exact ⟨[], by simp; omega, by simp, by simp [bkE], .inl rfl⟩
      | cons y l ih =>
        intro hk hkl
        have hk' : k < elems.length := by
         have := congrArg List.length hk; simp at this; omega
        have hy : elems[k]? = some y := by
         have := congrArg List.head? hk; simpa using this.symm
        obtain ⟨xs, x1, x2, x3, x4⟩ := ih (k + 1) (by rw [← List.tail_drop, ← hk]; rfl) (by omega)
        have hb1 := hel k (by omega)
        rw [hy, Option.bind_eq_some_iff] at hb1
        obtain ⟨cs', h1, h2⟩ := hb1
        obtain ⟨ds, d1, d2, d3, d4⟩ := trod_told hB hS n e cs' y hc.1 h2
        obtain ⟨_, g2, g3⟩ := World.cells?_some h1
        have hl2 := d2.length
        have ha := hsp0 (by omega)
        have hcell : ∀ i, i < cs'.length → w.cell? ⟨a.block, a.off + k * P.cellsOf e + i, none⟩ = cs'[i]? := by
         intro i hi
         have := g3 i (by omega)
         rw [← this]
         have e1 : a.add (k * P.cellsOf e) = ⟨a.block, a.off + k * P.cellsOf e, none⟩ := by
          unfold Addr.add; split
          ·rename_i h0; rw [h0]; rcases a with ⟨b, o, s⟩; simp_all
          ·rfl
         rw [e1, Addr.add_lit]
        refine ⟨ds :: xs, by simp; omega, ?_, ?_, .inr ?_⟩
        ·intro x hx
         rcases List.mem_cons.1 hx with rfl | hx
         ·exact d1
         ·exact x2 x hx
        ·have := hB.cons y.1 (l.map (·.1))
         simp only [List.map_cons, bkE]; omega
        ·simp only [RE]
         refine ⟨by omega, RC_of _ d2 d3 hcell (fun i hi => ?_), ?_⟩
         ·have := hcell i hi
          rw [List.getElem?_eq_getElem hi] at this
          exact cell_lt this
         ·rcases x4 with rfl | x4
          ·simp only [RE]
          ·rw [show a.off + k * P.cellsOf e + P.cellsOf e = a.off + (k + 1) * P.cellsOf e by rw [Nat.succ_mul]; omega]
           exact x4
     obtain ⟨xs, x1, x2, x3, x4⟩ := key 0 elems (by simp) (Nat.zero_le _)
     refine ⟨[.lst xs], by rw [CT, hu]; exact ⟨xs, rfl, by omega, x2⟩, ?_, by simp [Data.one], ?_⟩
     ·simp only [RVs]
      refine ⟨_, _, rfl, ?_, rfl⟩
      simp only [RV]
      refine ⟨some a, len, cap, rfl, by omega, hl, ?_⟩
      rcases x4 with rfl | x4
      ·exact .inl rfl
      ·by_cases hne : len = 0
       ·exact .inl (List.eq_nil_of_length_eq_zero (by omega))
       have ha := hsp0 hne
       refine .inr ⟨a.block, a.off, P.cellsOf e, ?_, hc.2, by simpa using x4⟩
       rcases a with ⟨b, o, s⟩
       simp_all
     ·have := hB.slice (elems.map (·.1)) (rest.map (·.1))
      simp only [bkC, bk]; omega
   ·rename_i fs hu
    simp only [Bool.and_eq_true, List.all_eq_true, List.contains_iff_mem] at hc
    obtain ⟨xs, m, hm, rfl, hl, hx, hf⟩ := DataW.trod_struct hu h
    obtain rfl : n = m := by omega
    obtain ⟨ds, e1, e2, e3, e4, e5, e6⟩ := told_fields hB (n := n) (w := w) (cs := cs) fs.toList xs 0 hc.2 (by simpa using hx) hl fun i f y hfi hy => by
     have hfi' : fs[i]? = some f := by simpa using hfi
     exact trod_told hB hS n f.type _ y (hc.1 f (List.mem_of_getElem? hfi)) ((hf i f hfi').trans hy)
    refine ⟨ds, ?_, by simpa using e3, e4, ?_⟩
    ·rw [CT, hu]
     exact ⟨by simpa using e1, fun f hf => by simpa using (e6 f hf).2⟩
    ·have := hB.agg (xs.map (·.1))
     simp only []; omega
   ·rename_i m e hu
    simp only [Bool.and_eq_true, List.contains_iff_mem, decide_eq_true_eq] at hc
    obtain ⟨xs, q, hq, rfl, hl, hx, hf⟩ := DataW.trod_array hu h
    obtain rfl : n = q := by omega
    obtain ⟨ds, e1, e3, e4, e5, e6⟩ := told_rows hB (P := P) (n := n) (w := w) (e := e) rfl (cs := cs) m xs 0 hx (by rw [hl, hc.2]; simp) fun i y hy => by
     have hi : i < m := by rw [← hx]; exact (List.getElem?_eq_some_iff.1 hy).1
     rw [Nat.zero_add]
     exact trod_told hB hS n e _ y hc.1 ((hf i hi).trans hy)
    refine ⟨ds, ?_, by simpa using e3, e4, ?_⟩
    ·rw [CT, hu]
     exact ⟨by rw [e1, hc.2], e6⟩
    ·have := hB.agg (xs.map (·.1))
     simp only []; omega
   ·cases hc
end
end Go.Proofs.YtpajpkbipagjpaaGreatDoor.Vm
namespace Go.Proofs.YtpajpkbipagjpaaGreatDoor.Vm
open Go Go.RowKit
structure Sig where
 ty : Type
 enc : ty → Data
 inj : ∀ x y, enc x = enc y → x = y
noncomputable def Sig.dec (s : Sig) (d : Data) : Option s.ty := by
 classical exact if h : ∃ x, s.enc x = d then some (Classical.choose h) else none
theorem Sig.dec_enc (s : Sig) (x : s.ty) : s.dec (s.enc x) = some x := by
 have h : ∃ y, s.enc y = s.enc x := ⟨x, rfl⟩
 unfold Sig.dec
 rw [dif_pos h]
 exact congrArg some (s.inj _ _ (Classical.choose_spec h))
theorem Sig.dec_some {s : Sig} {d : Data} {x : s.ty} (h : s.dec d = some x) : s.enc x = d := by
 unfold Sig.dec at h
 split at h
 ·rename_i h'
  simp only [Option.some.injEq] at h
  rw [← h]; exact Classical.choose_spec h'
 ·cases h
@[reducible] def Fun : List Sig → Type → Type
 | [], β => β
 | s :: ss, β => s.ty → Fun ss β
noncomputable def ap {β : Type} (z : β) : (ss : List Sig) → Fun ss β → List Data → β
 | [], f, ds => match ds with
   | [] => f
   | _ :: _ => z
 | s :: ss, f, ds => match ds with
   | [] => z
   | d :: ds => match s.dec d with
     | some x => ap z ss (f x) ds
     | none => z
noncomputable def apO {β : Type} (z : β) (s : Sig) (ss : List Sig) (f : Fun (s :: ss) β) (o : Option s.ty) (ds : List Data) : β :=
 match o with
 | some x => ap z ss (f x) ds
 | none => z
section
variable {β : Type} {z : β}
theorem ap_nil {f : Fun [] β} : ap z [] f [] = f := rfl
theorem ap_cons {s : Sig} {ss : List Sig} {f : Fun (s :: ss) β} {d : Data} {ds : List Data} : ap z (s :: ss) f (d :: ds) = apO z s ss f (s.dec d) ds := rfl
theorem apO_some {s : Sig} {ss : List Sig} {f : Fun (s :: ss) β} {x : s.ty} {ds : List Data} : apO z s ss f (some x) ds = ap z ss (f x) ds := rfl
theorem ap_short {s : Sig} {ss : List Sig} {f : Fun (s :: ss) β} : ap z (s :: ss) f [] = z := rfl
theorem ap_long {f : Fun [] β} {d : Data} {ds : List Data} : ap z [] f (d :: ds) = z := rfl
theorem apO_none {s : Sig} {ss : List Sig} {f : Fun (s :: ss) β} {ds : List Data} : apO z s ss f none ds = z := rfl
end
noncomputable def PF (ss : List Sig) (pre : Fun ss Prop) (res : Fun ss (List Data)) : PFn := ⟨ap False ss pre, ap [] ss res⟩
noncomputable def OF (ss : List Sig) (pre : Fun ss Prop) (e sz : Nat) (row : Fun ss (List (List Data))) (rest : Fun ss (List Data)) : OFn := ⟨ap False ss pre, e, sz, ap [] ss row, ap [] ss rest⟩
section
variable {ss : List Sig} {pre : Fun ss Prop} {res : Fun ss (List Data)} {e sz : Nat} {row : Fun ss (List (List Data))} {rest : Fun ss (List Data)} {ds : List Data}
theorem PF_pre : (PF ss pre res).pre ds = ap False ss pre ds := rfl
theorem PF_res : (PF ss pre res).res ds = ap [] ss res ds := rfl
theorem OF_pre : (OF ss pre e sz row rest).pre ds = ap False ss pre ds := rfl
theorem OF_row : (OF ss pre e sz row rest).row ds = ap [] ss row ds := rfl
theorem OF_rest : (OF ss pre e sz row rest).rest ds = ap [] ss rest ds := rfl
theorem OF_e : (OF ss pre e sz row rest).e = e := rfl
theorem OF_sz : (OF ss pre e sz row rest).sz = sz := rfl
end
def allS {γ : Type} (G : List Data → γ → Prop) : (ss : List Sig) → Fun ss Prop → Fun ss γ → (List Data → List Data) → Prop
 | [], p, r, k => p → G (k []) r
 | s :: ss, p, r, k => ∀ x : s.ty, allS G ss (p x) (r x) fun l => k (s.enc x :: l)
theorem allS_ok {γ : Type} {z : γ} {G : List Data → γ → Prop} : ∀ (ss : List Sig) (p : Fun ss Prop) (r : Fun ss γ) (k : List Data → List Data), allS G ss p r k → ∀ ds, ap False ss p ds → G (k ds) (ap z ss r ds)
 | [], p, r, k, h, [], hp => by rw [ap_nil] at hp ⊢; exact h hp
 | [], p, r, k, h, d :: ds, hp => by rw [ap_long] at hp; exact hp.elim
 | s :: ss, p, r, k, h, [], hp => by rw [ap_short] at hp; exact hp.elim
 | s :: ss, p, r, k, h, d :: ds, hp => by
   rw [ap_cons] at hp ⊢
   cases hd : s.dec d with
   | none => rw [hd, apO_none] at hp; exact hp.elim
   | some x =>
     rw [hd, apO_some] at hp
     rw [apO_some]
     obtain rfl := Sig.dec_some hd
     exact allS_ok ss (p x) (r x) _ (h x) ds hp
theorem ap_len {ss : List Sig} {p : Fun ss Prop} {ds : List Data} (h : ap False ss p ds) : ds.length = ss.length := by
 induction ss generalizing ds with
 | nil => cases ds with
   | nil => rfl
   | cons => rw [ap_long] at h; exact h.elim
 | cons s ss ih => cases ds with
   | nil => rw [ap_short] at h; exact h.elim
   | cons d ds =>
     rw [ap_cons] at h
     cases hd : s.dec d with
     | none => rw [hd, apO_none] at h; exact h.elim
     | some x => rw [hd, apO_some] at h; simp [ih h]
theorem Pure.of_sig {E : Env} {g : Nat} {ss : List Sig} {pre : Fun ss Prop} {res : Fun ss (List Data)} {fn : Func} {c : Code} {rs : List ResultVar} {n : Nat} (hf : E.P.funcs[g]? = some fn) (hb : fn.body = some c) (hrs : fn.results.toList = rs) (hnt : fn.ntmps = n)
 (hn : ss.length ≤ n) (h : allS (fun ds r => VC E none c (pureSt n ds) (pureK E.P rs r)) ss pre res id) : Pure E g (PF ss pre res) :=
 Pure.of_body hf hb hrs hnt fun ds hp => ⟨by rw [ap_len hp]; exact hn, allS_ok (z := []) ss pre res id h ds hp⟩
def allS2 {γ δ : Type} (G : List Data → γ → δ → Prop) : (ss : List Sig) → Fun ss Prop → Fun ss γ → Fun ss δ → (List Data → List Data) → Prop
 | [], p, r, q, k => p → G (k []) r q
 | s :: ss, p, r, q, k => ∀ x : s.ty, allS2 G ss (p x) (r x) (q x) fun l => k (s.enc x :: l)
theorem allS2_ok {γ δ : Type} {z : γ} {z' : δ} {G : List Data → γ → δ → Prop} : ∀ (ss : List Sig) (p : Fun ss Prop) (r : Fun ss γ) (q : Fun ss δ) (k : List Data → List Data), allS2 G ss p r q k → ∀ ds, ap False ss p ds → G (k ds) (ap z ss r ds) (ap z' ss q ds)
 | [], p, r, q, k, h, [], hp => by rw [ap_nil] at hp ⊢; rw [ap_nil]; exact h hp
 | [], p, r, q, k, h, d :: ds, hp => by rw [ap_long] at hp; exact hp.elim
 | s :: ss, p, r, q, k, h, [], hp => by rw [ap_short] at hp; exact hp.elim
 | s :: ss, p, r, q, k, h, d :: ds, hp => by
   rw [ap_cons] at hp ⊢
   rw [ap_cons]
   cases hd : s.dec d with
   | none => rw [hd, apO_none] at hp; exact hp.elim
   | some x =>
     rw [hd, apO_some] at hp
     rw [apO_some, apO_some]
     obtain rfl := Sig.dec_some hd
     exact allS2_ok ss (p x) (r x) (q x) _ (h x) ds hp
theorem Own.of_sig {E : Env} {g : Nat} {ss : List Sig} {pre : Fun ss Prop} {e sz : Nat} {row : Fun ss (List (List Data))} {rest : Fun ss (List Data)} {fn : Func} {c : Code} {rs : List ResultVar} {n : Nat} (hf : E.P.funcs[g]? = some fn) (hb : fn.body = some c) (hrs : fn.results.toList = rs) (hnt : fn.ntmps = n)
 (hn : ss.length ≤ n) (h : allS2 (fun ds r q => VC E none c (pureSt n ds) (ownK E.P rs e sz r q)) ss pre row rest id) : Own E g (OF ss pre e sz row rest) :=
 Own.of_body hf hb hrs hnt fun ds hp => ⟨by rw [ap_len hp]; exact hn, allS2_ok (z := []) (z' := []) ss pre row rest id h ds hp⟩
@[reducible] def SI (k : IntKind) : Sig := ⟨Int, .int k, fun _ _ h => by injection h⟩
@[reducible] def SB : Sig := ⟨Bool, .bool, fun _ _ h => by injection h⟩
@[reducible] def SS : Sig := ⟨List UInt8, .str, fun _ _ h => by injection h⟩
@[reducible] def SY : Sig := ⟨List UInt8, fun l => .lst (bytesD l), fun _ _ h => by injection h with h; exact bytesD_inj.1 h⟩
@[reducible] def SN : Sig := ⟨List Nat, fun l => .lst (numsD l), fun _ _ h => by injection h with h; exact numsD_inj.1 h⟩
@[reducible] def SD : Sig := ⟨Data, id, fun _ _ h => h⟩
theorem SI_dec {k : IntKind} {n : Int} : (SI k).dec (.int k n) = some n := (SI k).dec_enc n
theorem SB_dec {b : Bool} : SB.dec (.bool b) = some b := SB.dec_enc b
theorem SS_dec {s : List UInt8} : SS.dec (.str s) = some s := SS.dec_enc s
theorem SY_dec {s : List UInt8} : SY.dec (.lst (bytesD s)) = some s := SY.dec_enc s
theorem SY_dec0 : SY.dec (.lst []) = some [] := SY.dec_enc []
theorem SN_dec {s : List Nat} : SN.dec (.lst (numsD s)) = some s := SN.dec_enc s
theorem SD_dec {d : Data} : SD.dec d = some d := SD.dec_enc d
section
variable {β : Type} {z : β} {ss : List Sig} {ds : List Data}
theorem ap_SI {k : IntKind} {f : Fun (SI k :: ss) β} {n : Int} : ap z (SI k :: ss) f (.int k n :: ds) = ap z ss (f n) ds := by rw [ap_cons, SI_dec, apO_some]
theorem ap_SB {f : Fun (SB :: ss) β} {b : Bool} : ap z (SB :: ss) f (.bool b :: ds) = ap z ss (f b) ds := by rw [ap_cons, SB_dec, apO_some]
theorem ap_SS {f : Fun (SS :: ss) β} {s : List UInt8} : ap z (SS :: ss) f (.str s :: ds) = ap z ss (f s) ds := by rw [ap_cons, SS_dec, apO_some]
theorem ap_SY {f : Fun (SY :: ss) β} {s : List UInt8} : ap z (SY :: ss) f (.lst (bytesD s) :: ds) = ap z ss (f s) ds := by rw [ap_cons, SY_dec, apO_some]
theorem ap_SY0 {f : Fun (SY :: ss) β} : ap z (SY :: ss) f (.lst [] :: ds) = ap z ss (f ([] : List UInt8)) ds := by rw [ap_cons, SY_dec0, apO_some]
theorem ap_SN {f : Fun (SN :: ss) β} {s : List Nat} : ap z (SN :: ss) f (.lst (numsD s) :: ds) = ap z ss (f s) ds := by rw [ap_cons, SN_dec, apO_some]
theorem ap_SD {f : Fun (SD :: ss) β} {d : Data} : ap z (SD :: ss) f (d :: ds) = ap z ss (f d) ds := by rw [ap_cons, SD_dec, apO_some]
end
attribute [go_sem] ap_nil ap_SI ap_SB ap_SS ap_SY ap_SY0 ap_SN ap_SD PF_pre PF_res OF_pre OF_row OF_rest OF_e OF_sz id_eq
end Go.Proofs.YtpajpkbipagjpaaGreatDoor.Vm
namespace Go.Proofs.YtpajpkbipagjpaaGreatDoor.Vm
open Go Go.RowKit Go.IntWalk
attribute [go_sem_proc] Nat.reduceLT Nat.reduceAdd Nat.reduceEqDiff reduceIte Nat.reduceMul Nat.reduceSub reduceCtorEq Int.reduceNe Int.reduceEq Nat.reduceLeDiff Nat.reduceMod Nat.reduceDiv
attribute [go_sem] ne_eq
theorem tmodN {a b : Int} (h : 0 ≤ a) : a.tmod b = a % b := Int.tmod_eq_emod_of_nonneg h
theorem tdivN {a b : Int} (h : 0 ≤ a) : a.tdiv b = a / b := Int.tdiv_eq_ediv_of_nonneg h
structure Hid (q : Prop) : Prop where
 out : q
def Keep (E : Env) (Φ : Fns) (ts : List Nat) (T q p : Prop) : Prop := Sound E Φ → T → Hid q → p
section
variable {E : Env} {Φ : Fns} {ρ : Option Nat} {st st' : St} {K : Exit → St → Prop} {ts : List Nat} {T q p p' : Prop} {f : St → Prop}
theorem VC.seqC {o : Operand} {x y z : Code} (h : VC E ρ (.cond o x y) st (thenK (fun s => VC E ρ z s K) K)) : VC E ρ (.seq (.cond o x y) z) st K := VC.seq h
theorem VC.seqS {x y z : Code} (h : VC E ρ (.seq x y) st (thenK (fun s => VC E ρ z s K) K)) : VC E ρ (.seq (.seq x y) z) st K := VC.seq h
theorem VC.seqB {id : Nat} {x z : Code} (h : VC E ρ (.block id x) st (thenK (fun s => VC E ρ z s K) K)) : VC E ρ (.seq (.block id x) z) st K := VC.seq h
theorem VC.seqL {x z : Code} (h : VC E ρ (.loop x) st (thenK (fun s => VC E ρ z s K) K)) : VC E ρ (.seq (.loop x) z) st K := VC.seq h
theorem VC.seqX {z : Code} (h : VC E ρ .skip st (thenK (fun s => VC E ρ z s K) K)) : VC E ρ (.seq .skip z) st K := VC.seq h
theorem VC.seqP {x z : Code} (h : VC E ρ (.scope x) st (thenK (fun s => VC E ρ z s K) K)) : VC E ρ (.seq (.scope x) z) st K := VC.seq h
theorem VC.seqM {l : Nat} {z : Code} (h : VC E ρ (.label l) st (thenK (fun s => VC E ρ z s K) K)) : VC E ρ (.seq (.label l) z) st K := VC.seq h
theorem VC.atR {c : Code} (hv : VC E ρ c st' K) (h : st = st') : VC E ρ c st K := h ▸ hv
theorem K_atR {e : Exit} (hv : K e st') (h : st = st') : K e st := h ▸ hv
theorem VC.condbR {c : Operand} {x y : Code} {b : Bool} (h1 : b = true → VC E ρ x st K) (h2 : b = false → VC E ρ y st K) (hc : evO E st c = .dat (.bool b)) : VC E ρ (.cond c x y) st K := VC.condb hc h1 h2
theorem VC.condtR {c : Operand} {x y : Code} {b : Bool} (h1 : b = false → VC E ρ x st K) (h2 : b = true → VC E ρ y st K) (hc : evO E st c = .dat (.bool (!b))) : VC E ρ (.cond c x y) st K := VC.condt hc h1 h2
theorem VC.conddR {c : Operand} {x y : Code} {p : Prop} {_ : Decidable p} (h1 : p → VC E ρ x st K) (h2 : ¬ p → VC E ρ y st K) (hc : evO E st c = .dat (.bool (decide p))) : VC E ρ (.cond c x y) st K := VC.condd hc h1 h2
theorem VC.condnR {c : Operand} {x y : Code} {p : Prop} {_ : Decidable p} (h1 : ¬ p → VC E ρ x st K) (h2 : p → VC E ρ y st K) (hc : evO E st c = .dat (.bool (!decide p))) : VC E ρ (.cond c x y) st K := VC.condn hc h1 h2
theorem nx (h : q) (k : q → p := by
 intro h
 repeat first
  | with_reducible refine thenK_n ?_
  | with_reducible refine thenK_e ?_
  | with_reducible refine thenK_r ?_
  | with_reducible refine blockK_n ?_
  | with_reducible refine blockK_r ?_
  | with_reducible refine blockK_e ?_
  | (with_reducible refine blockK_m (by decide) ?_)
  | with_reducible refine scopeK_n ?_
  | with_reducible refine scopeK_e ?_
  | with_reducible refine scopeK_r ?_
  | refine VC.seqC ?_
  | refine VC.seqS ?_
  | refine VC.seqB ?_
  | refine VC.seqL ?_
  | refine VC.seqX ?_
  | refine VC.seqP ?_
  | refine VC.seqM ?_
  | refine VC.block ?_
  | refine VC.exit ?_
  | refine VC.ret ?_
  | refine VC.skip ?_
  | refine VC.label ?_
  | refine VC.scope ?_
 exact h) : p := k h
theorem sd (k : p := by
 first
 | omega
 | (simp only [maxLen]; omega)
 | (simp -implicitDefEqProofs (disch := omega) only [numsD_at, bytesD_at, i64_in, u64_in, tmodN, tdivN, numsD_len, bytesD_len, List.length_cons, List.length_nil, List.length_append, List.length_map, List.length_take, List.length_drop, maxLen]; done)
 | (simp -implicitDefEqProofs (disch := omega) only [numsD_at, bytesD_at, i64_in, u64_in, tmodN, tdivN, numsD_len, bytesD_len, List.length_cons, List.length_nil, List.length_append, List.length_map, List.length_take, List.length_drop, maxLen]; omega)
 | decide
 | fail) : p := k
theorem sde (e : T) (k : T → p := by
 intro e
 first
 | (simp -implicitDefEqProofs (disch := omega) only [e, numsD_at, bytesD_at, i64_in, u64_in, tmodN, tdivN, numsD_len, bytesD_len, List.length_cons, List.length_nil, List.length_append, Nat.reduceAdd, Nat.reduceLeDiff, Nat.le_refl, maxLen]; done)
 | (simp -implicitDefEqProofs (disch := omega) only [e, numsD_at, bytesD_at, i64_in, u64_in, tmodN, tdivN, numsD_len, bytesD_len, List.length_cons, List.length_nil, List.length_append, List.length_map, List.length_take, List.length_drop, maxLen]; omega)
 | fail) : p := k e
theorem sdp (e : T) (k : T → p := by
 intro e
 simp -implicitDefEqProofs (disch := omega) only [e, numsD_at, bytesD_at, i64_in, u64_in, tmodN, tdivN]
 simp -implicitDefEqProofs only [go_sem, e]
 repeat' first
  | with_reducible apply And.intro
  | exact sd
  | exact sde e
  | fail
 all_goals fail) : p := k e
theorem Keep.regt {id : Nat} {ops : Array Oper} {y : Code} (h : Hid q → T → ∀ K' : St → Prop, (∀ s, VC E ρ y (s.keep ts) K → K' s) → goL E Φ (ops.toList.map (strip ops)) st K') : Keep E Φ ts T q (VC E ρ (.seq (.region id ops false) y) st K) :=
 fun hΦ e g => VC.regt hΦ ts (h g e)
theorem Keep.regL {id : Nat} {ops : Array Oper} (h : Hid q → T → ∀ K' : St → Prop, (∀ s, K .normal s → K' s) → goL E Φ (ops.toList.map (strip ops)) st K') : Keep E Φ ts T q (VC E ρ (.region id ops false) st K) :=
 fun hΦ e g => VC.regLast hΦ (h g e)
def KeepQ (E : Env) (Φ : Fns) (n : Nat) (ts : List Nat) (T q p : Prop) : Prop := Sound E Φ → T → Hid q → p
theorem KeepQ.draw {id n : Nat} {ops : Array Oper} {y : Code} (hm : E.P.follows .mixedOrders = true) (hs : quietOK ops n = true) (hn : dstsOK ops n st.c.n = true)
 (h : Hid q → T → ∀ L : St → Prop, (∀ s, (∀ K' : St → Prop, (∀ s, VC E ρ y (s.keep ts) K → K' s) → goL E Φ ((ops.toList.drop n).map (strip ops)) s K') → L s) → runL E Φ ((ops.toList.take n).map (strip ops)) st L) :
 KeepQ E Φ n ts T q (VC E ρ (.seq (.region id ops true) y) st K) := fun hΦ e g => VC.draw1 hΦ hm n hs hn ts (h g e)
theorem KeepQ.drawN {id n : Nat} {ops : Array Oper} (hm : E.P.follows .mixedOrders = true) (hs : quietOK ops n = true) (hn : dstsOK ops n st.c.n = true)
 (h : Hid q → T → ∀ L : St → Prop, (∀ s, (∀ K' : St → Prop, (∀ s, K .normal s → K' s) → goL E Φ ((ops.toList.drop n).map (strip ops)) s K') → L s) → runL E Φ ((ops.toList.take n).map (strip ops)) st L) :
 KeepQ E Φ n ts T q (VC E ρ (.region id ops true) st K) := fun hΦ e g => VC.drawN hΦ hm n hs hn (h g e)
theorem rg (hΦ : Sound E Φ) (ts : List Nat) (e : T) {q1 : Prop} (h : q) (k : q1 → p := by exact fun h => nx h) (k2 : Keep E Φ ts T q q1 := by
 apply Keep.regt; intro h e K' hK
 dsimp only [List.append, List.take, List.drop, List.map, strip, stripG]
 try simp only [gtmp, List.getElem?_toArray, List.getElem?_cons_succ, List.getElem?_cons_zero, Option.bind_some]
 simp -implicitDefEqProofs only [go_sem, e]
 repeat' first
  | (refine hK _ ?_; apply VC.atR h.out; (try simp -implicitDefEqProofs only [go_sem, e]); (try simp (disch := omega) only [i64_in, u64_in, tmodN, tdivN]); exact rfl)
  | with_reducible apply And.intro
  | exact sd
  | exact sde e
  | exact sdp e
  | (with_reducible refine goA_id ?_; simp -implicitDefEqProofs (disch := omega) only [numsD_at, bytesD_at, i64_in, u64_in, tmodN, tdivN, e]; simp -implicitDefEqProofs only [go_sem, e])
  | fail) : p := k (k2 hΦ e ⟨h⟩)
theorem rgL (hΦ : Sound E Φ) (e : T) {q1 : Prop} (h : q) (k : q1 → p := by exact fun h => nx h) (k2 : Keep E Φ [] T q q1 := by
 apply Keep.regL; intro h e K' hK
 dsimp only [List.append, List.take, List.drop, List.map, strip, stripG]
 try simp only [gtmp, List.getElem?_toArray, List.getElem?_cons_succ, List.getElem?_cons_zero, Option.bind_some]
 simp -implicitDefEqProofs only [go_sem, e]
 repeat' first
  | (refine hK _ ?_; apply K_atR h.out; (try simp -implicitDefEqProofs only [go_sem, e]); (try simp (disch := omega) only [i64_in, u64_in, tmodN, tdivN]); exact rfl)
  | with_reducible apply And.intro
  | exact sd
  | exact sde e
  | exact sdp e
  | (with_reducible refine goA_id ?_; simp -implicitDefEqProofs (disch := omega) only [numsD_at, bytesD_at, i64_in, u64_in, tmodN, tdivN, e]; simp -implicitDefEqProofs only [go_sem, e])
  | fail) : p := k (k2 hΦ e ⟨h⟩)
theorem rd (hΦ : Sound E Φ) (n : Nat) (ts : List Nat) (e : T) {q1 : Prop} (h : q) (k : q1 → p := by exact fun h => nx h) (k2 : KeepQ E Φ n ts T q q1 := by
 apply KeepQ.draw (by kernel_rfl) (by kernel_rfl) (by kernel_rfl); intro h e L hL
 dsimp only [List.append, List.take, List.drop, List.map, strip, stripG]
 try simp only [gtmp, List.getElem?_toArray, List.getElem?_cons_succ, List.getElem?_cons_zero, Option.bind_some]
 simp -implicitDefEqProofs only [go_sem, e]
 repeat' first
  | (refine hL _ ?_; intro K' hK; dsimp only [List.append, List.drop, List.map, strip, stripG]; simp -implicitDefEqProofs only [go_sem, e])
  | (refine hK _ ?_; apply VC.atR h.out; (try simp -implicitDefEqProofs only [go_sem, e]); (try simp (disch := omega) only [i64_in, u64_in, tmodN, tdivN]); exact rfl)
  | with_reducible apply And.intro
  | exact sd
  | exact sde e
  | exact sdp e
  | ((first | with_reducible refine goA_id ?_ | with_reducible refine runA_id ?_); simp -implicitDefEqProofs (disch := omega) only [numsD_at, bytesD_at, i64_in, u64_in, tmodN, tdivN, e]; simp -implicitDefEqProofs only [go_sem, e])
  | fail) : p := k (k2 hΦ e ⟨h⟩)
theorem rdL (hΦ : Sound E Φ) (n : Nat) (e : T) {q1 : Prop} (h : q) (k : q1 → p := by exact fun h => nx h) (k2 : KeepQ E Φ n [] T q q1 := by
 apply KeepQ.drawN (by kernel_rfl) (by kernel_rfl) (by kernel_rfl); intro h e L hL
 dsimp only [List.append, List.take, List.drop, List.map, strip, stripG]
 try simp only [gtmp, List.getElem?_toArray, List.getElem?_cons_succ, List.getElem?_cons_zero, Option.bind_some]
 simp -implicitDefEqProofs only [go_sem, e]
 repeat' first
  | (refine hL _ ?_; intro K' hK; dsimp only [List.append, List.drop, List.map, strip, stripG]; simp -implicitDefEqProofs only [go_sem, e])
  | (refine hK _ ?_; apply K_atR h.out; (try simp -implicitDefEqProofs only [go_sem, e]); (try simp (disch := omega) only [i64_in, u64_in, tmodN, tdivN]); exact rfl)
  | with_reducible apply And.intro
  | exact sd
  | exact sde e
  | exact sdp e
  | ((first | with_reducible refine goA_id ?_ | with_reducible refine runA_id ?_); simp -implicitDefEqProofs (disch := omega) only [numsD_at, bytesD_at, i64_in, u64_in, tmodN, tdivN, e]; simp -implicitDefEqProofs only [go_sem, e])
  | fail) : p := k (k2 hΦ e ⟨h⟩)
theorem rB {id : Nat} {ops : Array Oper} {y : Code} {Q : (St → Prop) → Prop} (hΦ : Sound E Φ) (ts : List Nat) (e : T) (h : ∀ K' : St → Prop, (∀ s, VC E ρ y (s.keep ts) K → K' s) → Q K') (k : VC E ρ (.seq (.region id ops false) y) st K → p := by exact fun h => nx h)
 (k2 : ∀ K' : St → Prop, T → Q K' → goL E Φ (ops.toList.map (strip ops)) st K' := by
  intro K' e h
  dsimp only [List.append, List.take, List.drop, List.map, strip, stripG]
  try simp only [gtmp, List.getElem?_toArray, List.getElem?_cons_succ, List.getElem?_cons_zero, Option.bind_some]
  simp -implicitDefEqProofs only [go_sem, e]
  exact h) : p := k (VC.regt hΦ ts fun K' hK => k2 K' e (h K' hK))
theorem rdB {id n : Nat} {ops : Array Oper} {y : Code} {Q : (St → Prop) → Prop} (hΦ : Sound E Φ) (ts : List Nat) (e : T)
 (h : ∀ L : St → Prop, (∀ s, (∀ K' : St → Prop, (∀ s, VC E ρ y (s.keep ts) K → K' s) → goL E Φ ((ops.toList.drop n).map (strip ops)) s K') → L s) → Q L) (k : VC E ρ (.seq (.region id ops true) y) st K → p := by exact fun h => nx h)
 (hm : E.P.follows .mixedOrders = true := by kernel_rfl) (hs : quietOK ops n = true := by kernel_rfl) (hn : dstsOK ops n st.c.n = true := by kernel_rfl)
 (k2 : ∀ L : St → Prop, T → Q L → runL E Φ ((ops.toList.take n).map (strip ops)) st L := by
  intro L e h
  dsimp only [List.append, List.take, List.drop, List.map, strip, stripG]
  try simp only [gtmp, List.getElem?_toArray, List.getElem?_cons_succ, List.getElem?_cons_zero, Option.bind_some]
  simp -implicitDefEqProofs only [go_sem, e]
  exact h) : p := k (VC.draw1 hΦ hm n hs hn ts fun L hL => k2 L e (h L hL))
theorem lf {y : Code} {K' : St → Prop} {s : St} (hK : ∀ s, VC E ρ y (s.keep ts) K → K' s) (e : T) (h : q) (k : T → q → VC E ρ y (s.keep ts) K := by
 intro e h
 apply VC.atR h
 simp -implicitDefEqProofs only [go_sem, e]
 try simp (disch := omega) only [i64_in, u64_in, tmodN, tdivN]
 exact rfl) : K' s := hK s (k e h)
theorem lfd {n : Nat} {ops : Array Oper} {y : Code} {L : St → Prop} {s : St} (hL : ∀ s, (∀ K' : St → Prop, (∀ s, VC E ρ y (s.keep ts) K → K' s) → goL E Φ ((ops.toList.drop n).map (strip ops)) s K') → L s) (e : T) (h : q)
 (k : T → Hid q → ∀ K' : St → Prop, (∀ s, VC E ρ y (s.keep ts) K → K' s) → goL E Φ ((ops.toList.drop n).map (strip ops)) s K' := by
  intro e h K' hK
  dsimp only [List.append, List.drop, List.map, strip, stripG]
  try simp only [gtmp, List.getElem?_toArray, List.getElem?_cons_succ, List.getElem?_cons_zero, Option.bind_some]
  simp -implicitDefEqProofs only [go_sem, e]
  repeat' first
   | (refine hK _ ?_; apply VC.atR h.out; (try simp -implicitDefEqProofs only [go_sem, e]); (try simp (disch := omega) only [i64_in, u64_in, tmodN, tdivN]); exact rfl)
   | with_reducible apply And.intro
   | exact sd
   | exact sde e
   | exact sdp e
   | (with_reducible refine goA_id ?_; simp -implicitDefEqProofs (disch := omega) only [numsD_at, bytesD_at, i64_in, u64_in, tmodN, tdivN, e]; simp -implicitDefEqProofs only [go_sem, e])
   | fail) : L s := hL s (k e ⟨h⟩)
theorem stk (e : T) (h : q) (k : T → q → p := by
 intro e h
 first
  | with_reducible refine goA_id ?_
  | with_reducible refine runA_id ?_
 simp -implicitDefEqProofs (disch := omega) only [numsD_at, bytesD_at, i64_in, u64_in, tmodN, tdivN, e]
 simp -implicitDefEqProofs only [go_sem, e]
 exact h) : p := k e h
theorem sA {a b P : Prop} (e : T) (h : P → a) (h' : ¬P → b) (k : T → (P → a) → (¬P → b) → p := by
 intro e h h'
 first
  | refine goB_splitD (fun g => ?_) (fun g => ?_)
  | refine goA_splitD (fun g => ?_) (fun g => ?_)
  | refine runB_splitD (fun g => ?_) (fun g => ?_)
  | refine runA_splitD (fun g => ?_) (fun g => ?_)
 ·simp -implicitDefEqProofs only [go_sem, e]; exact h g
 ·simp -implicitDefEqProofs only [go_sem, e]; exact h' g) : p := k e h h'
theorem sAb {a b : Prop} {c : Bool} (e : T) (h : c = true → a) (h' : c = false → b) (k : T → (c = true → a) → (c = false → b) → p := by
 intro e h h'
 first
  | refine goB_split (fun g => ?_) (fun g => ?_)
  | refine goA_split (fun g => ?_) (fun g => ?_)
  | refine runB_split (fun g => ?_) (fun g => ?_)
  | refine runA_split (fun g => ?_) (fun g => ?_)
 ·simp -implicitDefEqProofs only [go_sem, e]; exact h g
 ·simp -implicitDefEqProofs only [go_sem, e]; exact h' g) : p := k e h h'
theorem cn {a b q1 : Prop} (h : a) (h' : b) (k : q1 → p := by exact fun h => nx h) (k2 : a → b → q1 := by
 intro h h'
 first
  | (apply VC.conddR h h'; simp -implicitDefEqProofs only [go_sem]; with_reducible exact rfl)
  | (apply VC.condnR h h'; simp -implicitDefEqProofs only [go_sem]; with_reducible exact rfl)
  | (apply VC.condtR h h'; simp -implicitDefEqProofs only [go_sem]; with_reducible exact rfl)
  | (apply VC.condbR h h'; simp -implicitDefEqProofs only [go_sem]; exact rfl)
  | (apply VC.condbR h h'; simp -implicitDefEqProofs only [go_sem]; done)
  | fail) : p := k (k2 h h')
theorem fn (e : T) {q1 : Prop} (h : q) (k : q1 → p := by exact fun h => nx h) (k2 : T → q → q1 := by
 intro e h
 simp -implicitDefEqProofs only [go_sem, e]
 exact h) : p := k (k2 e h)
theorem fz (e : T) {q1 : Prop} (k : q1 → p := by exact fun h => nx h) (k2 : T → q1 := by
 intro e
 simp -implicitDefEqProofs only [go_sem, e]
 try simp -implicitDefEqProofs only [go_sem, List.cons.injEq, Data.int.injEq, Data.bool.injEq, Data.agg.injEq, Data.lst.injEq, Data.str.injEq, e]
 repeat' first
  | with_reducible apply And.intro
  | trivial
  | omega
  | rfl
  | (simp_all; done)
  | fail) : p := k (k2 e)
theorem st0 (h : q) (k : q → p := by
 intro h
 apply VC.atR h
 simp -implicitDefEqProofs only [go_sem]
 exact rfl) : p := k h
theorem et {s s' : St} (k : Ent s s' := by
 refine Ent.to rfl rfl rfl ?_ ?_
 ·simp -implicitDefEqProofs only [go_sem]
  try simp (disch := omega) only [i64_in, u64_in, tmodN, tdivN]
  try simp only [D.dat.injEq, Data.int.injEq, Data.lst.injEq, Data.bool.injEq, Data.str.injEq, true_and, and_true, and_self, eq_self]
  try (repeat' first | with_reducible apply And.intro | trivial | omega | rfl)
 ·simp -implicitDefEqProofs only [go_sem]
  try (repeat' first | with_reducible apply And.intro | trivial | omega | rfl)) : Ent s s' := k
theorem ete {s s' : St} (e : T) (k : T → Ent s s' := by
 intro e
 refine Ent.to rfl rfl rfl ?_ ?_
 ·simp -implicitDefEqProofs only [go_sem]
  try simp (disch := omega) only [i64_in, u64_in, tmodN, tdivN, e]
  try simp only [D.dat.injEq, Data.int.injEq, Data.lst.injEq, Data.bool.injEq, Data.str.injEq, true_and, and_true, and_self, eq_self]
  try (repeat' first | with_reducible apply And.intro | trivial | omega | rfl)
 ·simp -implicitDefEqProofs only [go_sem]
  try simp -implicitDefEqProofs (disch := omega) only [go_sem, e]
  try (repeat' first | with_reducible apply And.intro | trivial | omega | rfl)) : Ent s s' := k e
theorem nd {P Q : Prop} (h : P) (k : P → False := by (intro h; first | exact absurd h (by decide) | fail)) : Q := (k h).elim
theorem na {P Q : Prop} (h : P) (k : P → False := by
 intro h
 first
 | exact absurd h (by decide)
 | ((try simp only [Bool.not_eq_eq_eq_not, Bool.not_true, Bool.not_false, decide_eq_false_iff_not, decide_eq_true_eq] at *); first | omega | (have g0 := g rfl; omega) | (simp_all; done) | fail)
 | fail) : Q := (k h).elim
end
end Go.Proofs.YtpajpkbipagjpaaGreatDoor.Vm
namespace Go.Proofs.YtpajpkbipagjpaaGreatDoor.Vm
open Go Go.RowKit Go.IntWalk
section
variable {E : Env} {Φ : Fns} {ρ : Option Nat} {st st' : St} {K : Exit → St → Prop} {ts : List Nat} {T q p p' : Prop} {f : St → Prop}
theorem lfC {n : Nat} {ops : Array Oper} {y : Code} {L : St → Prop} {s : St} {Q : (St → Prop) → Prop} (hL : ∀ s, (∀ K' : St → Prop, (∀ s, VC E ρ y (s.keep ts) K → K' s) → goL E Φ ((ops.toList.drop n).map (strip ops)) s K') → L s) (e : T)
 (h : ∀ K' : St → Prop, (∀ s, VC E ρ y (s.keep ts) K → K' s) → Q K')
 (k : ∀ K' : St → Prop, T → Q K' → goL E Φ ((ops.toList.drop n).map (strip ops)) s K' := by
  intro K' e h
  dsimp only [List.append, List.drop, List.map, strip, stripG]
  try simp only [gtmp, List.getElem?_toArray, List.getElem?_cons_succ, List.getElem?_cons_zero, Option.bind_some]
  simp -implicitDefEqProofs only [go_sem, e]
  exact h) : L s := hL s fun K' hK => k K' e (h K' hK)
theorem oc {g : Nat} {p : OFn} {ds : List D} {st1 : St} {xs : List Data} {dst : Option Nat} {lr : List SO} {K' : St → Prop} (h : Own E g p) (l : Nat) (e : T) (hk : q) (hz : frzs st ds = some (xs, st1) := by (simp -implicitDefEqProofs only [go_sem]; exact rfl))
 (hp : T → p.pre xs := by
  intro e
  simp -implicitDefEqProofs only [go_sem, e]
  repeat' first
   | with_reducible apply And.intro
   | exact sd)
 (hm : st1.noMark l := by (simp -implicitDefEqProofs only [go_sem]; try decide))
 (k : T → q → Rest E Φ dst lr K' (rowD l (p.row xs) (p.rest xs)) (st1.add l (.arr p.e p.sz (p.row xs) 0)) := by
  intro e h
  simp -implicitDefEqProofs only [go_sem, Rest, e]
  exact h) : VCcall E g ds st (Rest E Φ dst lr K') := VCcall.own h l hz (hp e) hm (k e hk)
theorem sAl {a b P P' : Prop} (e : T) (h : P → a) (h' : P' → b) (k : T → (P → a) → (P' → b) → p := by
 intro e h h'
 refine goA_all (fun g => ?_) (fun g => ?_)
 ·simp -implicitDefEqProofs only [go_sem, e]; exact h g
 ·simp -implicitDefEqProofs only [go_sem, e]; exact h' g) : p := k e h h'
end
end Go.Proofs.YtpajpkbipagjpaaGreatDoor.Vm
namespace Go.Proofs.YtpajpkbipagjpaaGreatDoor.Vm
open Go Go.RowKit
def plainOp : Op → Bool
 | .defer _ => false
 | .select _ _ => false
 | _ => true
def addrOp : Op → Option (TypeId × Operand × Nat)
 | .fieldAddr t x f => some (t, x, f)
 | _ => none
def tmpsOf (xs : Array Operand) : List Nat := xs.toList.filterMap fun | .tmp u => some u | _ => none
def writesFrom (ops : Array Oper) (q : Nat) : List Nat := (ops.toList.drop q).filterMap (·.dst)
def flT (ops : Array Oper) (fl : List Nat) : List Nat := fl.filterMap fun i => gtmp ops i
def floatsOK (ops : Array Oper) (q : Nat) (fl : List Nat) : Bool :=
 decide (q ≤ ops.size) && (fl.all fun i => decide (q ≤ i) && decide (i < ops.size)) && ((List.range ops.size).all fun i => match ops[i]? with
  | none => false
  | some o => (o.after.toList.all fun e => !Region.binds .any e || decide (e.on < i)) && plainOp o.op &&
    if i < q then ((match o.dst with | some t => wr ops q t == some i | none => false) && (match o.guard with | some (j, _) => decide (j < i) | none => true)) && (o.looksAt ops).all fun u => match wr ops q u with | some j => hangs o j | none => true
    else (clos ops i (hmask o)) % 2 ^ q == 2 ^ q - 1 &&
     if fl.contains i then (addrOp o.op).isSome && o.guard.isNone && (match o.dst with | some t => (List.range ops.size).all fun k => decide (k < q) || decide (k = i) || !(gtmp ops k == some t) | none => false) && (tmpsOf o.op.operands).all fun u => !(writesFrom ops q).contains u
     else ((List.range i).all fun j => decide (j < q) || fl.contains j || (clos ops i (hmask o)).testBit j) && (o.looksAt ops).all fun u => fl.all fun j => !(gtmp ops j == some u) || (clos ops i (hmask o)).testBit j)
theorem floatsOK_size {ops : Array Oper} {q : Nat} {fl : List Nat} (h : floatsOK ops q fl = true) : q ≤ ops.size := by
 simp only [floatsOK, Bool.and_eq_true, decide_eq_true_eq] at h
 exact h.1.1
theorem floatsOK_fl {ops : Array Oper} {q : Nat} {fl : List Nat} (h : floatsOK ops q fl = true) : ∀ i ∈ fl, q ≤ i ∧ i < ops.size := by
 simp only [floatsOK, Bool.and_eq_true, decide_eq_true_eq] at h
 intro i hi
 have := List.all_eq_true.1 h.1.2 i hi
 simpa using this
theorem clos_L {ops : Array Oper} {L : Nat → Prop} {o : Oper} {i j : Nat} (hL : Closed ops L) (hLo : ∀ e ∈ o.after, Region.binds .any e = true → L e.on) (h : (clos ops i (hmask o)).testBit j = true) : L j :=
 clos_in hL i (hmask o) (fun k hk => by
  obtain ⟨e, he, rfl, hb⟩ := hmask_bit hk
  exact hLo e he hb) j h
theorem floatsOK_at {ops : Array Oper} {q i : Nat} {fl : List Nat} {o : Oper} (h : floatsOK ops q fl = true) (ho : ops[i]? = some o) : (∀ e ∈ o.after, Region.binds .any e = true → e.on < i) ∧
 (i < q → ((∃ t, o.dst = some t ∧ wr ops q t = some i) ∧ ∀ j b, o.guard = some (j, b) → j < i) ∧ ∀ u ∈ o.looksAt ops, ∀ j, wr ops q u = some j → hangs o j = true) ∧ (q ≤ i → ∀ L, Closed ops L → (∀ e ∈ o.after, Region.binds .any e = true → L e.on) → ∀ j, j < q → L j) := by
 have hi : i < ops.size := (Array.getElem?_eq_some_iff.1 ho).1
 simp only [floatsOK, Bool.and_eq_true] at h
 have h := List.all_eq_true.1 h.2 i (List.mem_range.2 hi)
 rw [ho] at h
 simp only [Bool.and_eq_true] at h
 obtain ⟨⟨h1, hp⟩, h2⟩ := h
 refine ⟨fun e he hb => ?_, fun hq => ?_, fun hq L hL hLo j hj => ?_⟩
 ·have := List.all_eq_true.1 h1 e (by simpa using he)
  simpa [hb] using this
 ·rw [if_pos hq] at h2
  simp only [Bool.and_eq_true] at h2
  obtain ⟨⟨h3, h5⟩, h4⟩ := h2
  refine ⟨⟨?_, fun j b hg => ?_⟩, fun u hu j hj => ?_⟩
  ·split at h3
   ·rename_i t ht
    exact ⟨t, ht, by simpa using h3⟩
   ·cases h3
  ·rw [hg] at h5
   simpa using h5
  ·have := List.all_eq_true.1 h4 u hu
   rw [hj] at this
   exact this
 ·rw [if_neg (by omega)] at h2
  simp only [Bool.and_eq_true] at h2
  have h2 := eq_of_beq h2.1
  refine clos_L hL hLo (i := i) ?_
  have h3 := Nat.testBit_mod_two_pow (clos ops i (hmask o)) q j
  rw [h2, Nat.testBit_two_pow_sub_one, decide_eq_true hj, Bool.true_and] at h3
  exact h3.symm
theorem floatsOK_plain {ops : Array Oper} {q i : Nat} {fl : List Nat} {o : Oper} (h : floatsOK ops q fl = true) (ho : ops[i]? = some o) : plainOp o.op = true := by
 have hi : i < ops.size := (Array.getElem?_eq_some_iff.1 ho).1
 simp only [floatsOK, Bool.and_eq_true] at h
 have h := List.all_eq_true.1 h.2 i (List.mem_range.2 hi)
 rw [ho] at h
 simp only [Bool.and_eq_true] at h
 exact h.1.2
theorem floatsOK_in {ops : Array Oper} {q i : Nat} {fl : List Nat} {o : Oper} (h : floatsOK ops q fl = true) (ho : ops[i]? = some o) (hq : q ≤ i) (hm : i ∈ fl) :
 (∃ x, addrOp o.op = some x) ∧ o.guard = none ∧ (∃ t, o.dst = some t ∧ ∀ k, q ≤ k → k < ops.size → k ≠ i → gtmp ops k ≠ some t) ∧ ∀ u ∈ tmpsOf o.op.operands, ¬ u ∈ writesFrom ops q := by
 have hi : i < ops.size := (Array.getElem?_eq_some_iff.1 ho).1
 simp only [floatsOK, Bool.and_eq_true] at h
 have h := List.all_eq_true.1 h.2 i (List.mem_range.2 hi)
 rw [ho] at h
 simp only [Bool.and_eq_true] at h
 have h2 := h.2
 rw [if_neg (by omega)] at h2
 simp only [Bool.and_eq_true] at h2
 have h3 := h2.2
 rw [if_pos (by simpa using hm)] at h3
 simp only [Bool.and_eq_true] at h3
 obtain ⟨⟨⟨a, b⟩, c⟩, d⟩ := h3
 refine ⟨Option.isSome_iff_exists.1 a, by simpa using b, ?_, fun u hu hw => ?_⟩
 ·split at c
  ·rename_i t ht
   refine ⟨t, ht, fun k hk hkn hne e => ?_⟩
   have := List.all_eq_true.1 c k (List.mem_range.2 hkn)
   simp [e, hne] at this
   omega
  ·cases c
 ·have := List.all_eq_true.1 d u hu
  simp [hw] at this
theorem floatsOK_out {ops : Array Oper} {q i : Nat} {fl : List Nat} {o : Oper} (h : floatsOK ops q fl = true) (ho : ops[i]? = some o) (hq : q ≤ i) (hm : ¬ i ∈ fl) {L : Nat → Prop} (hL : Closed ops L) (hLo : ∀ e ∈ o.after, Region.binds .any e = true → L e.on) :
 (∀ j, q ≤ j → j < i → ¬ j ∈ fl → L j) ∧ ∀ u ∈ o.looksAt ops, ∀ j ∈ fl, gtmp ops j = some u → L j := by
 have hi : i < ops.size := (Array.getElem?_eq_some_iff.1 ho).1
 simp only [floatsOK, Bool.and_eq_true] at h
 have h := List.all_eq_true.1 h.2 i (List.mem_range.2 hi)
 rw [ho] at h
 simp only [Bool.and_eq_true] at h
 have h2 := h.2
 rw [if_neg (by omega)] at h2
 simp only [Bool.and_eq_true] at h2
 have h3 := h2.2
 rw [if_neg (by simpa using hm)] at h3
 simp only [Bool.and_eq_true] at h3
 refine ⟨fun j hj hji hjf => clos_L hL hLo (i := i) ?_, fun u hu j hj e => clos_L hL hLo (i := i) ?_⟩
 ·have := List.all_eq_true.1 h3.1 j (List.mem_range.2 hji)
  simp only [Bool.or_eq_true, decide_eq_true_eq, List.contains_iff_mem] at this
  rcases this with (h | h) | h
  ·omega
  ·exact absurd h hjf
  ·exact h
 ·have := List.all_eq_true.1 (List.all_eq_true.1 h3.2 u hu) j hj
  simpa [e] using this
structure Ahead (ops : Array Oper) (fl : List Nat) (v : Nat → Value) (listed : Array Bool) (a a' : Act) : Prop where
 defers : a'.defers = a.defers
 size : a'.tmps.size = a.tmps.size
 same : ∀ u, ¬ u ∈ flT ops fl → a'.tmps.getD u undef = a.tmps.getD u undef
 told : ∀ u, u ∈ flT ops fl → u < a.tmps.size ∧ a'.tmps.getD u undef = v u
 done : ∀ i ∈ fl, listed.getD i false = true → ∀ t, gtmp ops i = some t → a.tmps.getD t undef = v t
theorem upon_tr {F : Fence} {n : Nat} {P : Program} {o : Oper} {a a' : Act} {next next' : Act → World → Prop} {Q : Exit → Act → World → Prop} (h1 : ∀ v w, next' (a'.put o.dst v) w → next (a.put o.dst v) w)
 (h2 : ∀ d w, next' ({ a' with defers := d :: a'.defers }.put o.dst undef) w → next ({ a with defers := d :: a.defers }.put o.dst undef) w) {r : Result Next} (h : o.uponIn F n P a' next' (fun _ _ _ => False) r) : o.uponIn F n P a next Q r := by
 cases r with
 | ok x w' =>
   cases x <;> simp only [Oper.uponIn] at h ⊢
   case value => exact h1 _ _ h
   case skip => exact h1 _ _ h
   case defer => exact h2 _ _ h
   case enter => exact ⟨h.1, CallsIn.mono h.2 (fun e w'' he => by cases e <;> first | exact h1 _ _ he | exact he.elim | (obtain ⟨_, _, he⟩ := he; exact he.elim))⟩
   case row => exact ⟨h.1, RowsIn.mono h.2 (fun _ _ he => h1 _ _ he)⟩
   case round => exact ⟨h.1, RoundIn.mono h.2 (fun e w'' he => by cases e <;> first | exact h1 _ _ he | exact he.elim | (obtain ⟨_, _, he⟩ := he; exact he.elim))⟩
 | halt s w' => cases s <;> simp only [Oper.uponIn] at h ⊢
theorem semAt_plain {ro : Option Nat} {ρ : Operand → Value} {o : Oper} (h : plainOp o.op = true) : Oper.semAt ro ρ o = execOp ρ o :=
 Oper.semAt_eq ro ρ o fun c e => by rw [e] at h; cases h
theorem looksAt_guard {ops : Array Oper} {o : Oper} {j : Nat} {b : Bool} {g : Nat} (hg : o.guard = some (j, b)) (hgt : gtmp ops j = some g) : g ∈ o.looksAt ops := by
 unfold Oper.looksAt
 refine List.mem_append_right _ ?_
 rw [hg]
 simp only []
 rw [show (ops[j]?).bind (·.dst) = some g from hgt]
 simp
theorem looksAt_tmp {ops : Array Oper} {o : Oper} {u : Nat} (h : .tmp u ∈ o.op.operands) : u ∈ o.looksAt ops := by
 unfold Oper.looksAt
 exact List.mem_append_left _ (List.mem_filterMap.2 ⟨.tmp u, by simpa using h, rfl⟩)
theorem getD_put {a : Act} {t u : Nat} {v : Value} : (a.put (some t) v).tmps.getD u undef = if t = u ∧ u < a.tmps.size then v else a.tmps.getD u undef := by
 simp only [Act.put, Array.getD_eq_getD_getElem?, Array.getElem?_setIfInBounds]
 by_cases e : t = u
 ·subst e
  by_cases h : t < a.tmps.size
  ·rw [if_pos rfl, if_pos h, if_pos ⟨rfl, h⟩]; rfl
  ·rw [if_pos rfl, if_neg h, if_neg (fun x => h x.2)]
   simp [Array.getElem?_eq_none (Nat.le_of_not_lt h)]
 ·rw [if_neg e, if_neg (fun x => e x.1)]
theorem size_put {a : Act} {d : Option Nat} {v : Value} : (a.put d v).tmps.size = a.tmps.size := by
 cases d <;> simp [Act.put]
theorem mem_flT {ops : Array Oper} {fl : List Nat} {u : Nat} : u ∈ flT ops fl ↔ ∃ i ∈ fl, gtmp ops i = some u := by simp [flT, List.mem_filterMap]
section
variable {Γ : Ctx} {st : St} {as : List Act} {Φ : Fns} {ρ : Option Nat} {Q : Exit → Act → World → Prop} {ops : Array Oper} {q : Nat} {K : St → Prop} {fl : List Nat} {v : Nat → Value}
theorem float_know (hΦ : Sound Γ.toEnv Φ) (hs : floatsOK ops q fl = true) {i : Nat} {o : Oper} (ho : ops[i]? = some o) (hq : q ≤ i) (hm : i ∈ fl) {l : List Oper} {a' : Act} {β : Nat → Pl} {w : World} {t : Nat} {x : Value} (hd : o.dst = some t)
 (ht : t < a'.tmps.size) (hv : a'.tmps.getD t undef = x) (hx : (execOp a'.eval o).run Γ.P w = .ok (.value x) w) (S : Sim Γ st a' as β w) (h : goOps Γ.toEnv Φ ops (o :: l) st K) :
 ∃ st' β', Sim Γ st' a' as β' w ∧ goOps Γ.toEnv Φ ops l st' K := by
 have := goStep (Q := fun _ _ _ => False) (ρ := none) hΦ ho S h (next := fun a' w => ∃ st' β', Sim Γ st' a' as β' w ∧ goOps Γ.toEnv Φ ops l st' K) fun st a β w S h => ⟨st, β, S, h⟩
 simp only [wpOpIn, ho] at this
 rw [if_pos (by simp [Region.wanted, (floatsOK_in hs ho hq hm).2.1])] at this
 have := this.2
 rw [semAt_plain (floatsOK_plain hs ho), hx] at this
 simp only [Oper.uponIn, hd] at this
 have e : a'.put (some t) x = a' := by
  obtain ⟨tmps, ds⟩ := a'
  simp only [Act.put]
  congr 1
  apply Array.ext_getElem?
  intro k
  rw [Array.getElem?_setIfInBounds]
  by_cases ek : t = k
  ·subst ek
   rw [if_pos rfl, if_pos ht]
   rw [Array.getD_eq_getD_getElem?, Array.getElem?_eq_getElem ht] at hv
   rw [Array.getElem?_eq_getElem ht]
   simp at hv
   rw [hv]
  ·rw [if_neg ek]
 rw [e] at this
 exact this
theorem phaseF (hΦ : Sound Γ.toEnv Φ) (hs : floatsOK ops q fl = true) (hQ : ∀ st a β w, Sim Γ st a as β w → K st → Q .normal a w) :
 ∀ (fuel k : Nat) (listed : Array Bool) (st : St) (a a' : Act) (β : Nat → Pl) (w : World), listed.size = ops.size → unl listed ops.size ≤ fuel → q ≤ k → k ≤ ops.size → Closed ops (fun j => listed.getD j false = true) → (∀ i, i < q → listed.getD i true = true) →
  (∀ i, q ≤ i → i < ops.size → ¬ i ∈ fl → listed.getD i true = decide (i < k)) → Ahead ops fl v listed a a' → (∀ i ∈ fl, ∀ o, ops[i]? = some o → ∀ t, o.dst = some t → ∀ w, (execOp a.eval o).run Γ.P w = .ok (.value (v t)) w) →
  Sim Γ st a' as β w → goOps Γ.toEnv Φ ops (ops.toList.drop k) st K → wpAnyIn (Fw ρ) 0 Γ.P .any ops Q fuel listed a w := by
 have opd : ∀ i ∈ fl, ∀ o, ops[i]? = some o → ∀ x ∈ o.op.operands, ∀ u, x = .tmp u → ¬ u ∈ flT ops fl ∧ ¬ u ∈ writesFrom ops q := by
  intro i hi o ho x hx u e
  subst e
  have hu : u ∈ tmpsOf o.op.operands := by
   unfold tmpsOf
   exact List.mem_filterMap.2 ⟨.tmp u, by simpa using hx, rfl⟩
  have hw := (floatsOK_in hs ho (floatsOK_fl hs i hi).1 hi).2.2.2 u hu
  refine ⟨fun hf => hw ?_, hw⟩
  obtain ⟨j, hj, hg⟩ := mem_flT.1 hf
  have hjj := floatsOK_fl hs j hj
  unfold gtmp at hg
  cases hoj : ops[j]? with
  | none => rw [hoj] at hg; cases hg
  | some oj =>
    rw [hoj] at hg
    unfold writesFrom
    refine List.mem_filterMap.2 ⟨oj, ?_, hg⟩
    refine List.mem_iff_getElem?.2 ⟨j - q, ?_⟩
    rw [List.getElem?_drop, Nat.add_sub_cancel' hjj.1]
    simpa using hoj
 have evf : ∀ {listed : Array Bool} {a a' : Act}, Ahead ops fl v listed a a' → ∀ i ∈ fl, ∀ o, ops[i]? = some o → execOp a'.eval o = execOp a.eval o := by
  intro listed a a' hA i hi o ho
  refine execOp_congr o (fun cs b e => ?_) fun x hx => ?_
  ·have := floatsOK_plain hs ho
   rw [e] at this; cases this
  ·cases x with
   | tmp u => exact hA.same u (opd i hi o ho _ hx u rfl).1
   | _ => rfl
 -- addresses ahead of the next one
 have skip : ∀ (n k : Nat) (listed : Array Bool) (st : St) (a a' : Act) (β : Nat → Pl) (w : World), q ≤ k → k + n ≤ ops.size → (∀ i, k ≤ i → i < k + n → i ∈ fl) → Ahead ops fl v listed a a' →
  (∀ i ∈ fl, ∀ o, ops[i]? = some o → ∀ t, o.dst = some t → ∀ w, (execOp a.eval o).run Γ.P w = .ok (.value (v t)) w) → Sim Γ st a' as β w → goOps Γ.toEnv Φ ops (ops.toList.drop k) st K →
  ∃ st' β', Sim Γ st' a' as β' w ∧ goOps Γ.toEnv Φ ops (ops.toList.drop (k + n)) st' K := by
  intro n
  induction n with
  | zero => intro k listed st a a' β w hq hn hf hA hx S h; exact ⟨st, β, S, h⟩
  | succ n ih =>
    intro k listed st a a' β w hq hn hf hA hx S h
    have hk : k < ops.size := by omega
    have ho := Array.getElem?_eq_getElem hk
    have hmem := hf k (Nat.le_refl _) (by omega)
    obtain ⟨_, _, ⟨t, hd, _⟩, _⟩ := floatsOK_in hs ho hq hmem
    have hdrop : ops.toList.drop k = ops[k] :: ops.toList.drop (k + 1) := by
     rw [List.drop_eq_getElem_cons (by simpa using hk)]
     simp
    rw [hdrop] at h
    have hT : t ∈ flT ops fl := mem_flT.2 ⟨k, hmem, by simp [gtmp, ho, hd]⟩
    obtain ⟨ht, hv⟩ := hA.told t hT
    obtain ⟨st1, β1, S1, h1⟩ := float_know hΦ hs ho hq hmem hd (by rw [hA.size]; exact ht) hv (by rw [evf hA k hmem _ ho]; exact hx k hmem _ ho t hd w) S h
    obtain ⟨st2, β2, S2, h2⟩ := ih (k + 1) listed st1 a a' β1 w (by omega) (by omega) (fun i h1 h2 => hf i (by omega) (by omega)) hA hx S1 h1
    exact ⟨st2, β2, S2, by rw [show k + (n + 1) = k + 1 + n by omega]; exact h2⟩
 -- the end
 have fin : ∀ (k : Nat) (listed : Array Bool) (st : St) (a a' : Act) (β : Nat → Pl) (w : World), listed.size = ops.size → q ≤ k → k ≤ ops.size → (∀ i, i < ops.size → listed.getD i true = true) → (∀ i, q ≤ i → i < ops.size → ¬ i ∈ fl → listed.getD i true = decide (i < k)) → Ahead ops fl v listed a a' →
  (∀ i ∈ fl, ∀ o, ops[i]? = some o → ∀ t, o.dst = some t → ∀ w, (execOp a.eval o).run Γ.P w = .ok (.value (v t)) w) → Sim Γ st a' as β w → goOps Γ.toEnv Φ ops (ops.toList.drop k) st K → Q .normal a w := by
  intro k listed st a a' β w hsz hq hk hall hfr hA hx S h
  obtain ⟨st', β', S', h'⟩ := skip (ops.size - k) k listed st a a' β w hq (by omega) (fun i h1 h2 => by
   refine Classical.byContradiction fun hn => ?_
   have := hfr i (by omega) (by omega) hn
   rw [hall i (by omega)] at this
   simp at this; omega) hA hx S h
  rw [List.drop_of_length_le (by simp; omega)] at h'
  have e : a' = a := by
   obtain ⟨hd, hz, hsame, htold, hdone⟩ := hA
   obtain ⟨t1, d1⟩ := a
   obtain ⟨t2, d2⟩ := a'
   simp only at hd hz hsame htold hdone
   subst hd
   congr 1
   apply Array.ext hz
   intro i h1 h2
   have : t2.getD i undef = t1.getD i undef := by
    by_cases hi : i ∈ flT ops fl
    ·obtain ⟨j, hj, hg⟩ := mem_flT.1 hi
     rw [(htold i hi).2]
     refine (hdone j hj ?_ i hg).symm
     rw [getD_tf (by rw [hsz]; exact (floatsOK_fl hs j hj).2) false true]
     exact hall j (floatsOK_fl hs j hj).2
    ·exact hsame i hi
   simpa [Array.getD_eq_getD_getElem?, h1, h2] using this
  exact hQ st' a β' w (e ▸ S') h'
 intro fuel
 induction fuel with
 | zero =>
   intro k listed st a a' β w hsz hf hqk hk hcl hpre hfr hA hx S h
   have hall : ∀ i, i < ops.size → listed.getD i true = true := by
    intro i hi
    cases hl : listed.getD i true with
    | true => rfl
    | false => have := unl_pos hl hi; omega
   refine ⟨?_, fin k listed st a a' β w hsz hqk hk hall hfr hA hx S h⟩
   refine List.eq_nil_iff_forall_not_mem.2 fun j hj => ?_
   obtain ⟨h1, o, ho, _⟩ := mem_ready.1 hj
   rw [hall j (Array.getElem?_eq_some_iff.1 ho).1] at h1
   cases h1
 | succ fuel ih =>
   intro k listed st a a' β w hsz hf hqk hk hcl hpre hfr hA hx S h
   refine ⟨fun hnil => ?_, fun j hj => ?_⟩
   ·refine fin k listed st a a' β w hsz hqk hk (fun i hi => ?_) hfr hA hx S h
    cases hl : listed.getD i true with
    | true => rfl
    | false =>
      exfalso
      obtain ⟨i0, ⟨hi0, hu⟩, hmin⟩ := exists_min (T := fun i => i < ops.size ∧ listed.getD i true = false) ⟨i, hi, hl⟩
      have ho := Array.getElem?_eq_getElem hi0
      have : i0 ∈ Region.ready .any ops listed := by
       refine mem_ready.2 ⟨hu, _, ho, fun e he hb => ?_⟩
       have hlt := (floatsOK_at hs ho).1 e he hb
       rw [getD_tf (by omega) false true]
       cases h : listed.getD e.on true with
       | true => rfl
       | false => have := hmin e.on ⟨by omega, h⟩; omega
      rw [hnil] at this
      cases this
   ·obtain ⟨h1, o, ho, h2⟩ := mem_ready.1 hj
    have hjn := (Array.getElem?_eq_some_iff.1 ho).1
    have hjq : q ≤ j := by
     rcases Nat.lt_or_ge j q with hlt | hge
     ·rw [hpre j hlt] at h1; cases h1
     ·exact hge
    have hset : Closed ops (fun i => (listed.setIfInBounds j true).getD i false = true) := by
     intro m o' hm hlm e he hb
     have mono : ∀ i, listed.getD i false = true → (listed.setIfInBounds j true).getD i false = true := by
      intro i hi
      by_cases eij : j = i
      ·subst eij; exact getD_set_same (by omega) false
      ·rw [getD_set_ne false eij]; exact hi
     by_cases ejm : j = m
     ·subst ejm
      rw [ho] at hm
      cases hm
      exact mono _ (h2 e he hb)
     ·simp only [getD_set_ne false ejm] at hlm
      exact mono _ (hcl m o' hm hlm e he hb)
    have hcount : unl (listed.setIfInBounds j true) ops.size ≤ fuel := by
     have := unl_set (by omega) h1 hjn
     omega
    have hpre' : ∀ i, i < q → (listed.setIfInBounds j true).getD i true = true := fun i hi => by rw [getD_set_ne true (by omega)]; exact hpre i hi
    by_cases hm : j ∈ fl
    ·-- an address
     obtain ⟨⟨ax, hax⟩, hg, ⟨t, hd, huniq⟩, _⟩ := floatsOK_in hs ho hjq hm
     have hgt : gtmp ops j = some t := by simp [gtmp, ho, hd]
     have hT : t ∈ flT ops fl := mem_flT.2 ⟨j, hm, hgt⟩
     obtain ⟨htl, hvt⟩ := hA.told t hT
     simp only [wpOpIn, ho]
     rw [if_pos (by simp [Region.wanted, hg])]
     refine ⟨fun _ _ => trivial, ?_⟩
     rw [semAt_plain (floatsOK_plain hs ho), hx j hm o ho t hd w]
     simp only [Oper.uponIn, hd]
     refine ih k _ st (a.put (some t) (v t)) a' β w (by simp [hsz]) hcount hqk hk hset hpre' (fun i h3 h4 h5 => ?_) ?_ (fun i hi o' ho' t' hd' w' => ?_) S h
     ·rw [getD_set_ne true (by rintro rfl; exact h5 hm)]; exact hfr i h3 h4 h5
     ·refine ⟨by rw [hA.defers]; rfl, by rw [size_put]; exact hA.size, fun u hu => ?_, fun u hu => ?_, fun i hi hli t' ht' => ?_⟩
      ·rw [getD_put, if_neg (by rintro ⟨rfl, _⟩; exact hu hT)]; exact hA.same u hu
      ·rw [size_put]; exact hA.told u hu
      ·rw [getD_put]
       by_cases e : t = t'
       ·subst e; rw [if_pos ⟨rfl, htl⟩]
       ·rw [if_neg (fun x => e x.1)]
        have hne : j ≠ i := by rintro rfl; rw [hgt] at ht'; injection ht' with ht'; exact e ht'
        rw [getD_set_ne false hne] at hli
        exact hA.done i hi hli t' ht'
     ·have ee : execOp (a.put (some t) (v t)).eval o' = execOp a.eval o' := by
       refine execOp_congr o' (fun cs b e => ?_) fun x hx' => ?_
       ·have := floatsOK_plain hs ho'
        rw [e] at this; cases this
       ·cases x with
        | tmp u =>
          show (a.put (some t) (v t)).tmps.getD u undef = a.tmps.getD u undef
          rw [getD_put, if_neg]
          rintro ⟨rfl, _⟩
          exact (opd i hi o' ho' _ hx' _ rfl).1 hT
        | _ => rfl
      rw [ee]
      exact hx i hi o' ho' t' hd' w'
    ·-- the next one
     obtain ⟨hbefore, hlooks⟩ := floatsOK_out hs ho hjq hm hcl h2
     have hkj : k ≤ j := by
      have := hfr j hjq hjn hm
      rw [h1] at this
      simp at this; omega
     have hin : ∀ i, k ≤ i → i < k + (j - k) → i ∈ fl := by
      intro i h3 h4
      refine Classical.byContradiction fun hn => ?_
      have e1 := hbefore i (by omega) (by omega) hn
      have e2 := hfr i (by omega) (by omega) hn
      rw [getD_tf (by omega) false true, e2] at e1
      simp at e1; omega
     obtain ⟨st1, β1, S1, h1'⟩ := skip (j - k) k listed st a a' β w hqk (by omega) hin hA hx S h
     rw [show k + (j - k) = j by omega] at h1'
     have hdrop : ops.toList.drop j = o :: ops.toList.drop (j + 1) := by
      rw [List.drop_eq_getElem_cons (by simpa using hjn)]
      congr 1
      have := (Array.getElem?_eq_some_iff.1 ho).2
      simpa using this
     rw [hdrop] at h1'
     have hstep := goStep (Q := fun _ _ _ => False) (ρ := ρ) hΦ ho S1 h1' (next := fun a' w => ∃ st' β', Sim Γ st' a' as β' w ∧ goOps Γ.toEnv Φ ops (ops.toList.drop (j + 1)) st' K) fun st a β w S h => ⟨st, β, S, h⟩
     -- what it looks at is the same
     have look : ∀ u ∈ o.looksAt ops, a'.tmps.getD u undef = a.tmps.getD u undef := by
      intro u hu
      by_cases hi : u ∈ flT ops fl
      ·obtain ⟨i, hi', hg⟩ := mem_flT.1 hi
       rw [(hA.told u hi).2]
       exact (hA.done i hi' (hlooks u hu i hi' hg) u hg).symm
      ·exact hA.same u hi
     have hev : ∀ x ∈ o.op.operands, a'.eval x = a.eval x := by
      intro x hx'
      cases x with
      | tmp u => exact look u (looksAt_tmp hx')
      | _ => rfl
     have hdst : ∀ t, o.dst = some t → ¬ t ∈ flT ops fl := by
      intro t hd hT
      obtain ⟨i, hi', hg⟩ := mem_flT.1 hT
      have hii := floatsOK_fl hs i hi'
      obtain ⟨_, _, ⟨t2, hd2, huniq⟩, _⟩ := floatsOK_in hs (Array.getElem?_eq_getElem hii.2) hii.1 hi'
      have : t = t2 := by
       have e1 : gtmp ops i = some t2 := by simp [gtmp, Array.getElem?_eq_getElem hii.2, hd2]
       rw [hg] at e1; injection e1
      subst this
      exact huniq j hjq hjn (by rintro rfl; exact hm hi') (by simp [gtmp, ho, hd])
     have hyield : ∀ m, (∃ b, o.guard = some (m, b)) → yielded ops a'.tmps m = yielded ops a.tmps m := by
      rintro m ⟨b, hg⟩
      unfold yielded
      cases hgt : (ops[m]?).bind (·.dst) with
      | none => rfl
      | some g =>
        have hlk := look g (looksAt_guard hg (show gtmp ops m = some g from hgt))
        have hsz' := hA.size
        simp only [Option.bind_some]
        simp only [Array.getD_eq_getD_getElem?] at hlk
        by_cases hgl : g < a.tmps.size
        ·rw [Array.getElem?_eq_getElem hgl, Array.getElem?_eq_getElem (show g < a'.tmps.size by rw [hsz']; exact hgl)] at hlk
         rw [Array.getElem?_eq_getElem hgl, Array.getElem?_eq_getElem (show g < a'.tmps.size by rw [hsz']; exact hgl)]
         simp only [Option.getD_some] at hlk
         rw [hlk]
        ·rw [Array.getElem?_eq_none (show a'.tmps.size ≤ g by rw [hsz']; exact Nat.le_of_not_lt hgl), Array.getElem?_eq_none (show a.tmps.size ≤ g from Nat.le_of_not_lt hgl)]
     have hnext : ∀ (x : Value) (ds1 : List Deferred) (w : World), (∃ st' β', Sim Γ st' ((⟨a'.tmps, ds1⟩ : Act).put o.dst x) as β' w ∧ goOps Γ.toEnv Φ ops (ops.toList.drop (j + 1)) st' K) → wpAnyIn (Fw ρ) 0 Γ.P .any ops Q fuel (listed.setIfInBounds j true) ((⟨a.tmps, ds1⟩ : Act).put o.dst x) w := by
      rintro x ds1 w ⟨st', β', S', h'⟩
      refine ih (j + 1) _ st' _ _ β' w (by simp [hsz]) hcount (by omega) (by omega) hset hpre' (fun i h3 h4 h5 => ?_) ?_ (fun i hi o' ho' t' hd' w' => ?_) S' h'
      ·by_cases e : j = i
       ·subst e; rw [getD_set_same (by omega)]; simp
       ·rw [getD_set_ne true e, hfr i h3 h4 h5]
        by_cases hik : i < k
        ·simp [hik]; omega
        ·have : ¬ i < j + 1 := fun hlt => by
          exact h5 (hin i (by omega) (by omega))
         simp [hik, this]
      ·cases hd : o.dst with
       | none =>
         refine ⟨rfl, hA.size, hA.same, hA.told, fun i hi hli t' ht' => ?_⟩
         have hne : j ≠ i := by rintro rfl; exact hm hi
         rw [getD_set_ne false hne] at hli
         exact hA.done i hi hli t' ht'
       | some t =>
         have hnt := hdst t hd
         refine ⟨rfl, by rw [size_put, size_put]; exact hA.size, fun u hu => ?_, fun u hu => ?_, fun i hi hli t' ht' => ?_⟩
         ·rw [getD_put, getD_put]
          simp only [hA.size]
          split
          ·rfl
          ·exact hA.same u hu
         ·rw [size_put, getD_put, if_neg (by rintro ⟨rfl, _⟩; exact hnt hu)]
          exact hA.told u hu
         ·have hne : j ≠ i := by rintro rfl; exact hm hi
          rw [getD_set_ne false hne] at hli
          rw [getD_put, if_neg (by rintro ⟨rfl, _⟩; exact hnt (mem_flT.2 ⟨i, hi, ht'⟩))]
          exact hA.done i hi hli t' ht'
      ·have ee : execOp ((⟨a.tmps, ds1⟩ : Act).put o.dst x).eval o' = execOp a.eval o' := by
        refine execOp_congr o' (fun cs b e => ?_) fun y hy => ?_
        ·have := floatsOK_plain hs ho'
         rw [e] at this; cases this
        ·cases y with
         | tmp u =>
           show ((⟨a.tmps, ds1⟩ : Act).put o.dst x).tmps.getD u undef = a.tmps.getD u undef
           cases hd : o.dst with
           | none => rfl
           | some t =>
             rw [getD_put, if_neg]
             rintro ⟨rfl, _⟩
             refine (opd i hi o' ho' _ hy _ rfl).2 ?_
             unfold writesFrom
             refine List.mem_filterMap.2 ⟨o, ?_, hd⟩
             refine List.mem_iff_getElem?.2 ⟨j - q, ?_⟩
             rw [List.getElem?_drop, Nat.add_sub_cancel' hjq]
             simpa using ho
         | _ => rfl
       rw [ee]
       exact hx i hi o' ho' t' hd' w'
     simp only [wpOpIn, ho] at hstep ⊢
     have hwant : Region.wanted o (yielded ops a'.tmps) = Region.wanted o (yielded ops a.tmps) := by
      unfold Region.wanted
      cases hg : o.guard with
      | none => rfl
      | some mb =>
        obtain ⟨m, b⟩ := mb
        simp only [hyield m ⟨b, hg⟩]
     rw [hwant] at hstep
     have habout : o.about Γ.P w a'.eval = o.about Γ.P w a.eval := about_congr o w hev
     split
     ·rename_i hw
      rw [if_pos hw] at hstep
      refine ⟨fun _ _ => trivial, ?_⟩
      have hs2 := hstep.2
      have hp := floatsOK_plain hs ho
      rw [semAt_plain hp, execOp_congr o (fun cs b e => by rw [e] at hp; cases hp) hev] at hs2
      rw [semAt_plain hp]
      refine upon_tr (fun x w' hn => ?_) (fun d w' hn => ?_) hs2
      ·have := hnext x a.defers w'
       obtain ⟨ta, da⟩ := a
       obtain ⟨tb, db⟩ := a'
       have hdd : db = da := hA.defers
       subst hdd
       exact this hn
      ·have hdd : a'.defers = a.defers := hA.defers
       rw [hdd] at hn
       exact hnext undef (d :: a.defers) w' hn
     ·rename_i hw
      rw [if_neg hw] at hstep
      refine ⟨fun _ _ => trivial, ?_⟩
      have := hnext undef a.defers w
      obtain ⟨ta, da⟩ := a
      obtain ⟨tb, db⟩ := a'
      have hdd : db = da := hA.defers
      subst hdd
      exact this hstep.2
end
def adrs (E : Env) (s : St) : List SO → Option Tm
 | [] => some []
 | o :: l => match o.dst, o.op with
   | some t, .fieldAddr ty x f => match evFieldAddr E ty (evO E s x) f, adrs E s l with
     | .val d, some r => some ((t, d) :: r)
     | _, _ => none
   | _, _ => none
def flS (ops : Array Oper) (fl : List Nat) : List SO := fl.filterMap fun i => (ops[i]?).map (strip ops)
def tmS (sl : List SO) : List Nat := sl.filterMap (·.dst)
theorem flS_T {ops : Array Oper} {fl : List Nat} : tmS (flS ops fl) = flT ops fl := by
 unfold tmS flS flT gtmp
 induction fl with
 | nil => rfl
 | cons i r ih =>
   simp only [List.filterMap_cons]
   cases h : ops[i]? with
   | none => simpa [h] using ih
   | some o =>
     simp only [h, Option.map_some, Option.bind_some, List.filterMap_cons]
     have : (strip ops o).dst = o.dst := rfl
     rw [this, ih]
def St.puts (s : St) (fs : Tm) : St := ⟨⟨s.c.n, fs ++ s.c.t, s.c.m⟩, s.s, s.h⟩
theorem float_start {Γ : Ctx} {st : St} {a : Act} {as : List Act} {β : Nat → Pl} {w : World} (S : Sim Γ st a as β w) {ty : TypeId} {x : Operand} {f : Nat} {d : D} (h : evFieldAddr Γ.toEnv ty (evO Γ.toEnv st x) f = .val d) :
 ∃ v, RVD w (Im Γ β st.h w) β d v ∧ ∀ w2, (Instr.fieldAt ty (a.eval x) f).run Γ.P w2 = .ok v w2 := by
 have hx := S.eval x
 generalize a.eval x = vx at hx
 generalize evO Γ.toEnv st x = dx at h hx
 unfold evFieldAddr at h
 split at h
 ·rename_i off ft hf
  obtain ⟨gs, g, hu, hg, rfl, rfl⟩ := field_of hf
  split at h
  ·cases h
  ·rename_i hz
   have hz : szT Γ.P g.type ≠ 0 := hz
   split at h
   ·cases h
   ·rename_i hne
    have hne : kindT Γ.P g.type ≠ .other := fun e => hne e
    have key : ∀ (b o : Nat), vx = .pointer (some ⟨b, o, none⟩) → ∀ w2, (Instr.fieldAt ty vx f).run Γ.P w2 = .ok (.pointer (some ⟨b, o + g.offset, none⟩)) w2 := by
     rintro b o rfl w2
     simp [Instr.fieldAt, run_underlying hu, hg, Instr.sureAddr, fieldPlace, run_sizeOf w2 hne, hz, Addr.add_lit]
    split at h
    ·simp only [RVD] at hx
     obtain ⟨b, c, sz, hb, rfl⟩ := hx
     injection h with h
     subst h
     exact ⟨_, ref_ok hb, key _ _ rfl⟩
    ·simp only [RVD] at hx
     obtain ⟨b, c, sz, hb, rfl⟩ := hx
     injection h with h
     subst h
     exact ⟨_, by simp only [RVD]; exact ⟨b, c, sz, hb, by simp [Nat.add_assoc]⟩, key _ _ rfl⟩
    ·cases h
    ·cases h
 ·cases h
theorem sim_puts {Γ : Ctx} {st : St} {a : Act} {as : List Act} {β : Nat → Pl} {w : World} (S : Sim Γ st a as β w) : ∀ (sl : List SO) (fs : Tm), adrs Γ.toEnv st sl = some fs → (tmS sl).Nodup → (∀ t ∈ tmS sl, t < st.c.n) →
 ∃ a', Sim Γ (st.puts fs) a' as β w ∧ a'.defers = a.defers ∧ a'.tmps.size = a.tmps.size ∧ (∀ u, ¬ u ∈ tmS sl → a'.tmps.getD u undef = a.tmps.getD u undef) ∧ (∀ u ∈ tmS sl, u < a'.tmps.size) ∧
  ∀ o ∈ sl, ∀ t ty x f, o.dst = some t → o.op = .fieldAddr ty x f → ∀ w2, (Instr.fieldAt ty (a.eval x) f).run Γ.P w2 = .ok (a'.tmps.getD t undef) w2
 | [], fs, h, _, _ => by
   simp only [adrs, Option.some.injEq] at h
   subst h
   exact ⟨a, S, rfl, rfl, fun _ _ => rfl, fun u hu => by simp [tmS] at hu, fun o ho => by cases ho⟩
 | o :: l, fs, h, hnd, hlt => by
   simp only [adrs] at h
   split at h
   ·rename_i t ty x f hd hop
    split at h
    ·rename_i d r hev hr
     simp only [Option.some.injEq] at h
     subst h
     have htm : tmS (o :: l) = t :: tmS l := by simp [tmS, List.filterMap_cons, hd]
     rw [htm] at hnd hlt
     obtain ⟨hn1, hn2⟩ := List.nodup_cons.1 hnd
     obtain ⟨a', S', e1, e2, e3, e4, e5⟩ := sim_puts S l r hr hn2 fun u hu => hlt u (by simp [hu])
     obtain ⟨v, hv, hrun⟩ := float_start S hev
     have ht : t < st.c.n := hlt t (by simp)
     have hsz : a'.tmps.size = st.c.n := S'.cur.1
     refine ⟨a'.put (some t) v, S'.put ht hv, e1, by rw [size_put]; exact e2, fun u hu => ?_, fun u hu => ?_, fun o' ho' t' ty' x' f' hd' hop' w2 => ?_⟩
     ·rw [htm] at hu
      simp only [List.mem_cons, not_or] at hu
      rw [getD_put, if_neg (fun x => hu.1 x.1.symm)]
      exact e3 u hu.2
     ·rw [size_put]
      rw [htm] at hu
      rcases List.mem_cons.1 hu with rfl | hu
      ·omega
      ·exact e4 u hu
     ·rcases List.mem_cons.1 ho' with rfl | ho'
      ·rw [hd] at hd'; injection hd' with hd'; subst hd'
       rw [hop] at hop'; injection hop' with q1 q2 q3; subst q1 q2 q3
       rw [getD_put, if_pos ⟨rfl, by omega⟩]
       exact hrun w2
      ·have hne : t ≠ t' := by
        rintro rfl
        exact hn1 (List.mem_filterMap.2 ⟨o', ho', hd'⟩)
       rw [getD_put, if_neg (fun x => hne x.1)]
       exact e5 o' ho' t' ty' x' f' hd' hop' w2
    ·cases h
   ·cases h
section
variable {Γ : Ctx} {st : St} {as : List Act} {Φ : Fns} {ρ : Option Nat} {Q : Exit → Act → World → Prop} {ops : Array Oper} {q : Nat} {K : St → Prop} {fl : List Nat} {v : Nat → Value}
theorem phase1F (hΦ : Sound Γ.toEnv Φ) (hs : floatsOK ops q fl = true) (hQ : ∀ st a β w, Sim Γ st a as β w → K st → Q .normal a w) {tF : Tm} (hF : ∀ u, wr ops q u = none → look tF u = look st.c.t u)
 (hnd : (flT ops fl).Nodup) {fs : Tm} (hfs : adrs Γ.toEnv (st.withT tF) (flS ops fl) = some fs) (hdn : dstsOK ops ops.size st.c.n = true) (hc : ∀ i o t, i < q → ops[i]? = some o → o.dst = some t → t < st.c.n ∧ qCheck Γ.toEnv Φ ops st tF o t) (hK : goOps Γ.toEnv Φ ops (ops.toList.drop q) ((st.withT tF).puts fs) K) :
 ∀ (fuel : Nat) (listed : Array Bool) (t' : Tm) (a : Act) (β : Nat → Pl) (w : World), listed.size = ops.size → unl listed ops.size ≤ fuel → (∀ i, q ≤ i → i < ops.size → listed.getD i true = false) → Closed ops (fun k => listed.getD k false = true) →
  Sim Γ (st.withT t') a as β w → (∀ u, look t' u = lookV ops q st.c.t tF listed u) → wpAnyIn (Fw ρ) 0 Γ.P .any ops Q fuel listed a w := by
 have hqn := floatsOK_size hs
 have done : ∀ (fuel : Nat) (listed : Array Bool) (t' : Tm) (a : Act) (β : Nat → Pl) (w : World), listed.size = ops.size → unl listed ops.size ≤ fuel → (∀ i, q ≤ i → i < ops.size → listed.getD i true = false) → Closed ops (fun k => listed.getD k false = true) →
  Sim Γ (st.withT t') a as β w → (∀ u, look t' u = lookV ops q st.c.t tF listed u) → (∀ i, i < q → listed.getD i true = true) → wpAnyIn (Fw ρ) 0 Γ.P .any ops Q fuel listed a w := by
  intro fuel listed t' a β w hsz hf hl hcl S hlook hall
  have hex : ∀ i, i < ops.size → listed.getD i true = decide (i < q) := by
   intro i hi
   by_cases h : i < q
   ·rw [hall i h]; simp [h]
   ·rw [hl i (by omega) hi]; simp [h]
  obtain ⟨β', S'⟩ := (Ent.temps (t' := tF) fun u => by
   left
   rw [hlook u]
   unfold lookV
   split
   ·rename_i i hi
    have := (wr_dst hi).1
    rw [if_pos (by rw [getD_tf (by omega) false true]; exact hall i this)]
   ·rename_i hi
    exact hF u hi) Γ a as β w S
  have hcount := unl_exact hqn hex
  obtain ⟨a', S2, hd, hz, hsame, htold, hex2⟩ := sim_puts S' (flS ops fl) fs hfs (by rw [flS_T]; exact hnd) (fun t ht => by
   rw [flS_T] at ht
   obtain ⟨i, hi, hg⟩ := mem_flT.1 ht
   have hii := floatsOK_fl hs i hi
   have := List.all_eq_true.1 hdn (ops[i]'hii.2) (by rw [List.take_of_length_le (by simp)]; exact Array.mem_toList_iff.2 (Array.getElem_mem _))
   simp only [gtmp, Array.getElem?_eq_getElem hii.2, Option.bind_some] at hg
   rw [hg] at this
   simpa using this)
  refine phaseF (v := fun u => a'.tmps.getD u undef) hΦ hs hQ fuel q listed _ a a' β' w hsz hf (Nat.le_refl _) hqn hcl hall (fun i h1 h2 _ => hex i h2) ⟨hd, hz, fun u hu => hsame u (by rw [flS_T]; exact hu), fun u hu => ⟨?_, rfl⟩, fun i hi hli => ?_⟩ (fun i hi o ho t hdt w2 => ?_) S2 hK
  ·have := htold u (by rw [flS_T]; exact hu)
   rw [← hz]; exact this
  ·have := floatsOK_fl hs i hi
   rw [getD_tf (by omega) false true, hl i (by omega) this.2] at hli
   cases hli
  ·obtain ⟨⟨⟨ty, x, f⟩, hax⟩, _, _, _⟩ := floatsOK_in hs ho (floatsOK_fl hs i hi).1 hi
   have hop : o.op = .fieldAddr ty x f := by
    cases hop : o.op <;> rw [hop] at hax <;> simp [addrOp] at hax
    obtain ⟨rfl, rfl, rfl⟩ := hax; rfl
   have h3 := hex2 (strip ops o) (List.mem_filterMap.2 ⟨i, hi, by rw [ho]; rfl⟩) t ty x f hdt hop w2
   unfold execOp
   rw [hop]
   simp only []
   rw [Sem.run_bind, h3]
   rfl
 intro fuel
 induction fuel with
 | zero =>
   intro listed t' a β w hsz hf hl hcl S hlook
   refine done 0 listed t' a β w hsz hf hl hcl S hlook fun i hi => ?_
   cases h : listed.getD i true with
   | true => rfl
   | false => have := unl_pos h (show i < ops.size by omega); omega
 | succ fuel ih =>
   intro listed t' a β w hsz hf hl hcl S hlook
   by_cases hall : ∀ i, i < q → listed.getD i true = true
   ·exact done (fuel + 1) listed t' a β w hsz hf hl hcl S hlook hall
   ·have hsome : ∃ i, i < q ∧ listed.getD i true = false := by
     refine Classical.byContradiction fun hno => hall fun i hi => ?_
     cases h : listed.getD i true with
     | true => rfl
     | false => exact absurd ⟨i, hi, h⟩ hno
    refine ⟨fun hnil => ?_, fun j hj => ?_⟩
    ·exfalso
     obtain ⟨i, ⟨hi, hu⟩, hmin⟩ := exists_min hsome
     have ho := Array.getElem?_eq_getElem (show i < ops.size by omega)
     have : i ∈ Region.ready .any ops listed := by
      refine mem_ready.2 ⟨hu, _, ho, fun e he hb => ?_⟩
      have hlt := (floatsOK_at hs ho).1 e he hb
      rw [getD_tf (by omega) false true]
      cases h : listed.getD e.on true with
      | true => rfl
      | false => have := hmin e.on ⟨by omega, h⟩; omega
     rw [hnil] at this
     cases this
    ·obtain ⟨h1, o, ho, h2⟩ := mem_ready.1 hj
     have hjn := (Array.getElem?_eq_some_iff.1 ho).1
     have hjq : j < q := by
      rcases Nat.lt_or_ge j q with h | h
      ·exact h
      ·exfalso
       obtain ⟨i, hi, hu⟩ := hsome
       have := (floatsOK_at hs ho).2.2 h _ hcl h2 i (by omega)
       rw [getD_tf (by omega) false true, hu] at this
       cases this
     obtain ⟨⟨⟨t, hd, hw⟩, _⟩, hlooks⟩ := (floatsOK_at hs ho).2.1 hjq
     obtain ⟨htn, hck⟩ := hc j o t hjq ho hd
     refine qStep hΦ ho hd htn S (fun u hu => ?_) hck fun a' β' w' S' => ?_
     ·rw [hlook u]
      unfold lookV
      split
      ·rename_i i hi
       obtain ⟨e, he, e1, e2⟩ := hangs_ok (hlooks u hu i hi)
       rw [if_pos (by rw [← e1]; exact h2 e he e2)]
      ·rename_i hi
       exact (hF u hi).symm
     ·refine ih (listed.setIfInBounds j true) ((t, look tF t) :: t') a' β' w' (by simp [hsz]) ?_ (fun i hi hin => by rw [getD_set_ne true (by omega)]; exact hl i hi hin) ?_ S' fun u => ?_
      ·have := unl_set (by omega) h1 hjn
       omega
      ·intro k o' hk hlk e he hb
       have mono : ∀ i, listed.getD i false = true → (listed.setIfInBounds j true).getD i false = true := by
        intro i hi
        by_cases eij : j = i
        ·subst eij; exact getD_set_same (by omega) false
        ·rw [getD_set_ne false eij]; exact hi
       by_cases ejk : j = k
       ·subst ejk
        rw [ho] at hk
        cases hk
        exact mono _ (h2 e he hb)
       ·rw [getD_set_ne false ejk] at hlk
        exact mono _ (hcl k o' hk hlk e he hb)
      ·simp only [look]
       by_cases e : t = u
       ·subst e
        rw [if_pos rfl]
        unfold lookV
        rw [hw]
        simp only []
        rw [if_pos (getD_set_same (by omega) false)]
       ·rw [if_neg e, hlook u]
        unfold lookV
        split
        ·rename_i i hi
         have hne : j ≠ i := by
          rintro rfl
          have := (wr_dst hi).2
          simp only [gtmp, ho, Option.bind_some, hd, Option.some.injEq] at this
          exact e this
         rw [getD_set_ne false hne]
        ·rfl
end
theorem runQ_allF {E : Env} {Φ : Fns} {ops : Array Oper} {q : Nat} {K : St → Prop} {fl : List Nat} (hs : floatsOK ops q fl = true) : ∀ (l : List Oper) (i : Nat) (s : St), (ops.toList.take q).drop i = l → runQ E Φ ops l s K →
 ∃ tF : Tm, K (s.withT tF) ∧ (∀ u, (∀ j, i ≤ j → wr ops q u ≠ some j) → look tF u = look s.c.t u) ∧ ∀ j o t, i ≤ j → j < q → ops[j]? = some o → o.dst = some t → qCheck E Φ ops s tF o t
 | [], i, s, hl, h => by
   refine ⟨s.c.t, h, fun u _ => rfl, fun j o t hij hjq ho _ => ?_⟩
   have hqn := floatsOK_size hs
   have := congrArg List.length hl
   simp at this
   omega
 | o :: l, i, s, hl, h => by
   have hqn := floatsOK_size hs
   have hi : i < q := by
    have := congrArg List.length hl
    simp at this
    omega
   have ho : ops[i]? = some o := by
    have := congrArg List.head? hl
    rw [List.head?_drop, List.getElem?_take, if_pos hi] at this
    simpa using this
   have hl' : (ops.toList.take q).drop (i + 1) = l := by
    rw [← List.tail_drop, hl]; rfl
   obtain ⟨⟨⟨t, hd, hw⟩, hgd⟩, hlooks⟩ := (floatsOK_at hs ho).2.1 hi
   have hafter := (floatsOK_at hs ho).1
   have hbefore : ∀ u ∈ o.looksAt ops, ∀ j, wr ops q u = some j → j < i := by
    intro u hu j hj
    obtain ⟨e, he, e1, e2⟩ := hangs_ok (hlooks u hu j hj)
    rw [← e1]; exact hafter e he e2
   -- what is done with a value of t, from a state that looks as s
   have fin : ∀ (s0 : St) (t0 : Tm) (d : D), s0 = s.withT t0 → (∀ u, look s0.c.t u = look s.c.t u) → runQ E Φ ops l (s0.put t d) K → (∀ tF : Tm, (∀ u, (∀ j, i + 1 ≤ j → wr ops q u ≠ some j) → u ≠ t → look tF u = look s.c.t u) → look tF t = d → qCheck E Φ ops s tF o t) →
    ∃ tF : Tm, K (s.withT tF) ∧ (∀ u, (∀ j, i ≤ j → wr ops q u ≠ some j) → look tF u = look s.c.t u) ∧ ∀ j o t, i ≤ j → j < q → ops[j]? = some o → o.dst = some t → qCheck E Φ ops s tF o t := by
    intro s0 t0 d hs0 hlk hrun hck
    obtain ⟨tF, h1, h2, h3⟩ := runQ_allF hs l (i + 1) (s0.put t d) hl' hrun
    subst hs0
    refine ⟨tF, h1, fun u hu => ?_, fun j o' t' hij hjq ho' hd' => ?_⟩
    ·rw [h2 u fun j hj => hu j (by omega), look_put_ne, hlk u]
     rintro rfl
     exact hu i (Nat.le_refl _) hw
    ·rcases Nat.lt_or_ge i j with hlt | hge
     ·have := h3 j o' t' hlt hjq ho' hd'
      rw [show ((s.withT t0).put t d) = s.withT ((t, d) :: t0) from rfl, qCheck_withT] at this
      exact this
     ·have e : i = j := by omega
      subst e
      rw [ho] at ho'; injection ho' with ho'; subst ho'
      rw [hd] at hd'; injection hd' with hd'; subst hd'
      refine hck tF (fun u hu hne => ?_) ?_
      ·rw [h2 u hu, look_put_ne (Ne.symm hne), hlk u]
      ·rw [h2 t, look_put_eq]
       intro j hj e
       rw [hw] at e; injection e with e; omega
   -- the operands look the same
   have hopd : ∀ (tF : Tm) (s0 : St), (∀ u, look s0.c.t u = look s.c.t u) → (∀ u, (∀ j, i + 1 ≤ j → wr ops q u ≠ some j) → u ≠ t → look tF u = look s.c.t u) → ∀ x ∈ o.op.operands, evO E s0 x = evO E (s.withT tF) x := by
    intro tF s0 hlk h x hx
    refine evO_same fun u e => ?_
    subst e
    have hu : u ∈ o.looksAt ops := by
     unfold Oper.looksAt
     exact List.mem_append_left _ (List.mem_filterMap.2 ⟨.tmp u, by simpa using hx, rfl⟩)
    rw [hlk u]
    refine (h u (fun j hj e => ?_) ?_).symm
    ·have := hbefore u hu j e; omega
    ·rintro rfl
     have := hbefore _ hu i hw; omega
   have hrunok : ∀ (s0 : St) (t0 : Tm), s0 = s.withT t0 → (∀ u, look s0.c.t u = look s.c.t u) → ∀ (F : D → Prop), (evQ E Φ (evO E s0) s o.op).run F → ∃ d, F d ∧ ∀ tF : Tm, (∀ u, (∀ j, i + 1 ≤ j → wr ops q u ≠ some j) → u ≠ t → look tF u = look s.c.t u) → look tF t = d → (evQ E Φ (evO E (s.withT tF)) s o.op).ok fun d => look tF t = d := by
    intro s0 t0 hs0 hlk F hr
    obtain ⟨d, h1, h2⟩ := QA.run_ok hr
    refine ⟨d, h1, fun tF hF ht => ?_⟩
    rw [← evQ_congr o.op (hopd tF s0 hlk hF)]
    exact QA.ok_mono (fun d' e => ht.trans e) h2
   unfold runQ at h
   rw [hd] at h
   simp only [] at h
   cases hg : o.guard with
   | none =>
     rw [hg] at h
     simp only [] at h
     obtain ⟨d, h1, h2⟩ := hrunok s s.c.t rfl (fun _ => rfl) _ h
     refine fin s s.c.t d rfl (fun _ => rfl) h1 fun tF hF ht => ?_
     unfold qCheck
     rw [hg]
     exact h2 tF hF ht
   | some jb =>
     obtain ⟨j, b⟩ := jb
     rw [hg] at h
     simp only [] at h
     split at h
     ·exact h.elim
     ·rename_i g hgt
      have hgl : ∀ tF : Tm, (∀ u, (∀ j, i + 1 ≤ j → wr ops q u ≠ some j) → u ≠ t → look tF u = look s.c.t u) → look tF g = look s.c.t g := by
       intro tF hF
       have hu : g ∈ o.looksAt ops := by
        unfold Oper.looksAt
        refine List.mem_append_right _ ?_
        rw [hg]
        simp only []
        rw [show (ops[j]?).bind (·.dst) = some g from hgt]
        simp
       refine hF g (fun j hj e => ?_) ?_
       ·have := hbefore g hu j e; omega
       ·rintro rfl
        have := hbefore _ hu i hw; omega
      split at h
      ·rename_i c hc
       by_cases hcb : c = b
       ·subst hcb
        obtain ⟨d, h1, h2⟩ := hrunok (s.put g (.dat (.bool c))) _ rfl (fun u => look_put_same hc) _ (h.1 rfl)
        refine fin (s.put g (.dat (.bool c))) _ d rfl (fun u => look_put_same hc) h1 fun tF hF ht => ?_
        unfold qCheck
        rw [hg]
        simp only [hgt, hgl tF hF, hc, qGuard]
        exact ⟨fun _ => h2 tF hF ht, fun e => by cases c <;> cases e⟩
       ·have hcb' : c = !b := by cases c <;> cases b <;> simp_all
        have h1 := h.2 hcb'
        rw [← hcb'] at h1
        refine fin (s.put g (.dat (.bool c))) _ _ rfl (fun u => look_put_same hc) h1 fun tF hF ht => ?_
        unfold qCheck
        rw [hg]
        simp only [hgt, hgl tF hF, hc, qGuard]
        exact ⟨fun e => absurd e hcb, fun _ => ht⟩
      ·rename_i hc
       refine fin s s.c.t _ rfl (fun _ => rfl) h fun tF hF ht => ?_
       unfold qCheck
       rw [hg]
       simp only [hgt, hgl tF hF, hc, qGuard]
       exact ht
      ·exact h.elim
section
variable {E : Env} {Φ : Fns} {ρ : Option Nat} {st : St} {K : Exit → St → Prop}
theorem VC.drawFN {id : Nat} {ops : Array Oper} (hΦ : Sound E Φ) (hm : E.P.follows .mixedOrders = true) (q : Nat) (fl : List Nat) {sl : List SO} (hsl : flS ops fl = sl) (hs : floatsOK ops q fl = true) (hnd : (flT ops fl).Nodup) (hn : dstsOK ops ops.size st.c.n = true)
 (h : ∀ L : St → Prop, (∀ s fs, adrs E s sl = some fs → (∀ K' : St → Prop, (∀ s, K .normal s → K' s) → goL E Φ ((ops.toList.drop q).map (strip ops)) (s.puts fs) K') → L s) → runL E Φ ((ops.toList.take q).map (strip ops)) st L) :
 VC E ρ (.region id ops true) st K := fun Γ a as β w hΓ S => by
 subst hΓ
 subst hsl
 refine wpIn_region_any hm ?_
 have hqn := floatsOK_size hs
 have hr := h (fun s => ∃ fs, adrs Γ.toEnv s (flS ops fl) = some fs ∧ ∀ K' : St → Prop, (∀ s, K .normal s → K' s) → goL Γ.toEnv Φ ((ops.toList.drop q).map (strip ops)) (s.puts fs) K') fun s fs a b => ⟨fs, a, b⟩
 rw [runL_ok] at hr
 obtain ⟨tF, ⟨fs, hfs, hK⟩, hF, hq⟩ := runQ_allF hs _ 0 st rfl hr
 refine phase1F (Γ := Γ) (st := st) (as := as) (Q := fun e a w => ∃ st' β', Sim Γ st' a as β' w ∧ K e st') hΦ hs (K := K .normal) (fun st a β w S k => ⟨st, β, S, k⟩) (tF := tF) (fun u hu => hF u fun j _ e => ?_) hnd hfs hn (fun i o t hi ho ht => ⟨?_, hq i o t (Nat.zero_le _) hi ho ht⟩) ?_
  ops.size (Array.replicate ops.size false) st.c.t a β w.drew (by simp) (unl_le _ _) (fun i _ hi => by simp [Array.getD_eq_getD_getElem?, hi]) (fun k o _ hk => by simp [Array.getD_eq_getD_getElem?, Array.getElem?_replicate] at hk; split at hk <;> simp at hk) S.drew (fun u => ?_)
 ·rw [hu] at e; cases e
 ·have : o ∈ ops.toList.take ops.size := by
   refine List.mem_iff_getElem?.2 ⟨i, ?_⟩
   rw [List.getElem?_take, if_pos (Array.getElem?_eq_some_iff.1 ho).1]
   simpa using ho
  have := List.all_eq_true.1 hn o this
  rw [ht] at this
  simpa using this
 ·have := hK (K .normal) fun _ k => k
  rw [goL_ok] at this
  exact this
 ·unfold lookV
  split
  ·rename_i i hi
   have := (wr_dst hi).1
   rw [if_neg (by simp [Array.getD_eq_getD_getElem?, show i < ops.size by omega])]
  ·rfl
theorem VC.drawF {id : Nat} {ops : Array Oper} {y : Code} (hΦ : Sound E Φ) (hm : E.P.follows .mixedOrders = true) (q : Nat) (fl : List Nat) {sl : List SO} (hsl : flS ops fl = sl) (hs : floatsOK ops q fl = true) (hnd : (flT ops fl).Nodup) (hn : dstsOK ops ops.size st.c.n = true) (ts : List Nat)
 (h : ∀ L : St → Prop, (∀ s fs, adrs E s sl = some fs → (∀ K' : St → Prop, (∀ s, VC E ρ y (s.keep ts) K → K' s) → goL E Φ ((ops.toList.drop q).map (strip ops)) (s.puts fs) K') → L s) → runL E Φ ((ops.toList.take q).map (strip ops)) st L) :
 VC E ρ (.seq (.region id ops true) y) st K :=
 VC.seq (VC.drawFN hΦ hm q fl hsl hs hnd hn fun L hL => h L fun s fs hfs a => hL s fs hfs fun K' hK => a K' fun s hs => hK s (hs.ent (Ent.keep s ts)))
end
attribute [go_sem] adrs St.puts
end Go.Proofs.YtpajpkbipagjpaaGreatDoor.Vm
namespace Go.Proofs.YtpajpkbipagjpaaGreatDoor.Vm
open Go Go.RowKit Go.IntWalk
section
variable {E : Env} {Φ : Fns} {ρ : Option Nat} {st st' : St} {K : Exit → St → Prop} {ts : List Nat} {T q p p' : Prop} {f : St → Prop}
theorem rF {id n : Nat} {ops : Array Oper} {y : Code} {sl : List SO} {Q : (St → Prop) → Prop} (hΦ : Sound E Φ) (fl : List Nat) (ts : List Nat) (e : T)
 (h : ∀ L : St → Prop, (∀ s fs, adrs E s sl = some fs → (∀ K' : St → Prop, (∀ s, VC E ρ y (s.keep ts) K → K' s) → goL E Φ ((ops.toList.drop n).map (strip ops)) (s.puts fs) K') → L s) → Q L) (k : VC E ρ (.seq (.region id ops true) y) st K → p := by exact fun h => nx h)
 (hm : E.P.follows .mixedOrders = true := by kernel_rfl) (hsl : flS ops fl = sl := by
  simp only [flS, List.filterMap_cons, List.filterMap_nil, List.getElem?_toArray, List.getElem?_cons_succ, List.getElem?_cons_zero, Option.map_some, strip, stripG]
  exact rfl) (hs : floatsOK ops n fl = true := by kernel_rfl) (hnd : (flT ops fl).Nodup := by decide) (hn : dstsOK ops ops.size st.c.n = true := by kernel_rfl)
 (k2 : ∀ L : St → Prop, T → Q L → runL E Φ ((ops.toList.take n).map (strip ops)) st L := by
  intro L e h
  dsimp only [List.append, List.take, List.drop, List.map, strip, stripG]
  try simp only [gtmp, List.getElem?_toArray, List.getElem?_cons_succ, List.getElem?_cons_zero, Option.bind_some]
  simp -implicitDefEqProofs only [go_sem, e]
  exact h) : p := k (VC.drawF hΦ hm n fl hsl hs hnd hn ts fun L hL => k2 L e (h L hL))
theorem lfF {n : Nat} {ops : Array Oper} {y : Code} {L : St → Prop} {s : St} {sl : List SO} {fs : Tm} {Q : (St → Prop) → Prop} (hL : ∀ s fs, adrs E s sl = some fs → (∀ K' : St → Prop, (∀ s, VC E ρ y (s.keep ts) K → K' s) → goL E Φ ((ops.toList.drop n).map (strip ops)) (s.puts fs) K') → L s) (e : T)
 (h : ∀ K' : St → Prop, (∀ s, VC E ρ y (s.keep ts) K → K' s) → Q K') (hfs : adrs E s sl = some fs := by (simp -implicitDefEqProofs only [go_sem]; exact rfl))
 (k : ∀ K' : St → Prop, T → Q K' → goL E Φ ((ops.toList.drop n).map (strip ops)) (s.puts fs) K' := by
  intro K' e h
  dsimp only [List.append, List.drop, List.map, strip, stripG]
  try simp only [gtmp, List.getElem?_toArray, List.getElem?_cons_succ, List.getElem?_cons_zero, Option.bind_some]
  simp -implicitDefEqProofs only [go_sem, e]
  exact h) : L s := hL s fs hfs fun K' hK => k K' e (h K' hK)
theorem fi (e : T) {q1 : Prop} (h : q) (k : q1 → p := by exact fun h => nx h) (k2 : T → q → q1 := by
 intro e h
 simp -implicitDefEqProofs only [go_sem, e]
 try simp -implicitDefEqProofs only [go_sem, List.cons.injEq, Data.int.injEq, Data.bool.injEq, Data.agg.injEq, Data.lst.injEq, Data.str.injEq, e]
 exact h) : p := k (k2 e h)
theorem nlc {c : Code} (l0 i l e' sz : Nat) {cs : List D} (hq : q) (hm : st.noMark l := by (simp -implicitDefEqProofs only [go_sem]; try decide)) (hf : find st.h l0 = some (.cells cs false) := by (simp -implicitDefEqProofs only [go_sem]; exact rfl)) (hi : cs[i]? = some .nilsl := by rfl)
 (hsz : 0 < sz := by decide) (hl : l0 ≠ l := by decide) (k : q → VC E ρ c ((st.add l (.arr e' sz [] 0)).setB l0 (.cells ((D.erases l cs).set i (.sl l 0 0)) false)) K := by
  intro h
  apply VC.atR h
  simp -implicitDefEqProofs only [go_sem]
  exact rfl) : VC E ρ c st K := VC.ent (Ent.nilC l0 i l e' sz hsz hm hl hf hi) (k hq)
theorem nlt {c : Code} (t l e' sz : Nat) (hq : q) (hm : st.noMark l := by (simp -implicitDefEqProofs only [go_sem]; try decide)) (ht : look st.c.t t = .nilsl := by (simp -implicitDefEqProofs only [go_sem]; try exact rfl))
 (hsz : 0 < sz := by decide) (k : q → VC E ρ c ((st.add l (.arr e' sz [] 0)).put t (.sl l 0 0)) K := by
  intro h
  apply VC.atR h
  simp -implicitDefEqProofs only [go_sem]
  exact rfl) : VC E ρ c st K := VC.ent (Ent.nilT t l e' sz hsz hm ht) (k hq)
end
end Go.Proofs.YtpajpkbipagjpaaGreatDoor.Vm
namespace Go.Proofs.YtpajpkbipagjpaaGreatDoor.Vm
open Go Go.RowKit
theorem Pure.of_pure {E : Env} {g : Nat} {p : PFn} {ss : List Sig} {pre : Fun ss Prop} {res : Fun ss (List Data)} (hp : Pure E g p) (h : allS (fun ds r => p.pre ds ∧ p.res ds = r) ss pre res id) : Pure E g (PF ss pre res) := by
 intro w J args ds hJ hG hR hpre
 have h1 : p.pre ds ∧ p.res ds = ap [] ss res ds := allS_ok (z := []) ss pre res id h ds hpre
 rw [PF_res, ← h1.2]
 exact hp w J args ds hJ hG hR h1.1
end Go.Proofs.YtpajpkbipagjpaaGreatDoor.Vm
namespace Go.Proofs.YtpajpkbipagjpaaGreatDoor.Vm
open Go Go.RowKit Go.IntWalk
section
variable {E : Env} {Φ : Fns} {ρ : Option Nat} {st st1 : St} {K : Exit → St → Prop} {T q p : Prop}
theorem ec {g : Nat} {ds : List D} {K : D → St → Prop} {fn : Func} {c : Code} {rs : List ResultVar} {n : Nat} (hf : E.P.funcs[g]? = some fn) (hb : fn.body = some c) (hrs : fn.results.toList = rs) (hnt : fn.ntmps = n)
 (h : VC E none c st1 (retK E.P rs K)) (hn : ds.length ≤ n := by exact Nat.le_of_ble_eq_true rfl) (hs : st.enter n ds = st1 := by (simp -implicitDefEqProofs only [go_sem]; exact rfl)) : VCcall E g ds st K :=
 VCcall.enter hf hb hrs hnt hn (hs ▸ h)
theorem rt (e : T) (h : q) (k : T → q → p := by
 intro e h
 simp -implicitDefEqProofs only [go_sem, Rest, e]
 exact h) : p := k e h
theorem re {g : Operand} {ps : Array Tmp} {assign body : Code} {f : Nat} {ys : List D} {fn : Func} {c : Code} {rs : List ResultVar} {n : Nat} {s1 : Code → Code → St} (m l : Nat) (hf : E.P.funcs[f]? = some fn) (hb : fn.body = some c) (hrs : fn.results.toList = rs) (hnt : fn.ntmps = n)
 (h : ∀ A B, A = assign → B = body → VC E none c (s1 A B) (retK E.P rs (fun _ s => aftS E none l K s)))
 (hml : m ≠ l := by omega) (hm : st.noMark m := by (simp -implicitDefEqProofs only [go_sem]; try decide)) (hl : (st.add m .defer).noMark l := by (simp -implicitDefEqProofs only [go_sem]; try decide)) (hfr : find st.h l = none := by (simp -implicitDefEqProofs only [go_sem]))
 (hc : callable E.P f = true := by kernel_rfl) (hg : ∀ A B, evO E (st.ranged m l ps.toList A B) g = .fn (.func f) [] ys := by (intro A B; simp -implicitDefEqProofs only [go_sem]; exact rfl))
 (hn : (D.yld l :: ys).length ≤ n := by exact Nat.le_of_ble_eq_true rfl) (hs : ∀ A B, (st.ranged m l ps.toList A B).enter n (.yld l :: ys) = s1 A B := by (intro A B; simp -implicitDefEqProofs only [go_sem]; exact rfl)) : VC E none (.rangeFunc g ps assign body) st K :=
 VC.rangeO m l hml hm hl hfr hc hg fun A B hA hB => VCcall.enter hf hb hrs hnt hn (hs A B ▸ h A B hA hB)
theorem yd {l n : Nat} {tm : Tm} {ps : List Tmp} {ds : List D} {A B assign : Code} {p0 : Option Code} {K : D → St → Prop} (hA : A = assign) (h : VC E (some l) assign st1 (begK E l B K))
 (hf : find st.h l = some (.loop tm n ps A B .ready p0) := by (simp -implicitDefEqProofs only [go_sem]; exact rfl)) (hlen : ds.length = ps.length := by rfl) (hps : ∀ p ∈ ps, p < n := by decide)
 (hs : st.round l tm n ps ds = st1 := by (simp -implicitDefEqProofs only [go_sem]; exact rfl)) : VCyield E l ds st K :=
 VCyield.round hf hlen hps (hs ▸ hA ▸ h)
theorem yb {l n : Nat} {tm : Tm} {ps : List Tmp} {A B body : Code} {p0 : Option Code} {K : D → St → Prop} (hB : B = body) (h : VC E (some l) body st1 (endK l K))
 (hf : find st.h l = some (.loop tm n ps A B .ready p0) := by (simp -implicitDefEqProofs only [go_sem]; exact rfl))
 (hs : st.setB l (.loop tm n ps A B .busy p0) = st1 := by (simp -implicitDefEqProofs only [go_sem]; exact rfl)) : begK E l B K .normal st := by
 show begS E l B K st
 unfold begS
 rw [hf]
 show VC E (some l) B (st.setB l (.loop tm n ps A B .busy p0)) (endK l K)
 rw [hs, hB]; exact h
theorem ya {l n : Nat} {tm : Tm} {ps : List Tmp} {A B : Code} (h : K .normal st1) (hf : find st.h l = some (.loop tm n ps A B .ready none) := by (simp -implicitDefEqProofs only [go_sem]; exact rfl))
 (hs : st.setB l (.loop tm n ps A B .exhausted none) = st1 := by (simp -implicitDefEqProofs only [go_sem]; exact rfl)) : aftS E ρ l K st := by
 unfold aftS
 rw [hf]
 show K .normal (st.setB l (.loop tm n ps A B .exhausted none))
 rw [hs]; exact h
theorem yc {l n : Nat} {tm : Tm} {ps : List Tmp} {A B c : Code} (h : VC E ρ c st1 K) (hf : find st.h l = some (.loop tm n ps A B .done (some c)) := by (simp -implicitDefEqProofs only [go_sem]; exact rfl))
 (hs : st.setB l (.loop tm n ps A B .exhausted (some c)) = st1 := by (simp -implicitDefEqProofs only [go_sem]; exact rfl)) : aftS E ρ l K st := by
 unfold aftS
 rw [hf]
 show VC E ρ c (st.setB l (.loop tm n ps A B .exhausted (some c))) K
 rw [hs]; exact h
theorem Ent.fnT {s : St} (t : Nat) {f : Go.Fn} (ht : look s.c.t t = .dat (.fn f)) : Ent s (s.put t (.fn f [] [])) := fun Γ a as β w S => ⟨β, S.know (by
 have := S.get t
 rw [ht] at this
 simp only [RVD, RV] at this
 rw [this]
 simp only [RVD]
 exact ⟨#[], #[], rfl, by simp [RVDs], by simp [RVDs]⟩)⟩
theorem nft {c : Code} (t : Nat) {f : Go.Fn} (hq : q) (ht : look st.c.t t = .dat (.fn f) := by (simp -implicitDefEqProofs only [go_sem]; try exact rfl)) (k : q → VC E ρ c (st.put t (.fn f [] [])) K := by
 intro h
 apply VC.atR h
 simp -implicitDefEqProofs only [go_sem]
 exact rfl) : VC E ρ c st K := VC.ent (Ent.fnT t ht) (k hq)
theorem rBL {id : Nat} {ops : Array Oper} {Q : (St → Prop) → Prop} (hΦ : Sound E Φ) (e : T) (h : ∀ K' : St → Prop, (∀ s, K .normal s → K' s) → Q K') (k : VC E ρ (.region id ops false) st K → p := by exact fun h => nx h)
 (k2 : ∀ K' : St → Prop, T → Q K' → goL E Φ (ops.toList.map (strip ops)) st K' := by
  intro K' e h
  dsimp only [List.append, List.take, List.drop, List.map, strip, stripG]
  try simp only [gtmp, List.getElem?_toArray, List.getElem?_cons_succ, List.getElem?_cons_zero, Option.bind_some]
  simp -implicitDefEqProofs only [go_sem, e]
  exact h) : p := k (VC.regLast hΦ fun K' hK => k2 K' e (h K' hK))
theorem lfL {K' : St → Prop} {s : St} (hK : ∀ s, K .normal s → K' s) (e : T) (h : q) (k : T → q → K .normal s := by
 intro e h
 apply K_atR h
 try simp -implicitDefEqProofs only [go_sem, e]
 try simp (disch := omega) only [i64_in, u64_in, tmodN, tdivN]
 exact rfl) : K' s := hK s (k e h)
end
end Go.Proofs.YtpajpkbipagjpaaGreatDoor.Vm
namespace Go.Proofs.YtpajpkbipagjpaaGreatDoor.Vm
open Go Go.RowKit Go.IntWalk
section
variable {E : Env} {Φ : Fns} {ρ : Option Nat} {st st1 : St} {K : Exit → St → Prop} {T q p : Prop}
end
end Go.Proofs.YtpajpkbipagjpaaGreatDoor.Vm
namespace Go.Proofs.YtpajpkbipagjpaaGreatDoor.Vm
open Go Go.RowKit Go.IntWalk
inductive OT where
 | stop
 | done
 | alt (j : Nat) (sub rest : OT)
def ordT (ops : Array Oper) : Nat → Array Bool → OT
 | 0, _ => .stop
 | f + 1, listed => match Region.ready .any ops listed with
   | [] => .stop
   | r => r.foldr (fun j o => .alt j (ordT ops f (listed.setIfInBounds j true)) o) .done
def runT (E : Env) (Φ : Fns) (ops : Array Oper) : OT → St → (St → Prop) → Prop
 | .stop, st, K => K st
 | .done, _, _ => True
 | .alt j sub rest, st, K => goL E Φ ((ops[j]?).toList.map (strip ops)) st (fun s => runT E Φ ops sub s K) ∧ runT E Φ ops rest st K
theorem runT_stop {E : Env} {Φ : Fns} {ops : Array Oper} {st : St} {K : St → Prop} : runT E Φ ops .stop st K = K st := rfl
theorem runT_done {E : Env} {Φ : Fns} {ops : Array Oper} {st : St} {K : St → Prop} : runT E Φ ops .done st K = True := rfl
theorem runT_alt {E : Env} {Φ : Fns} {ops : Array Oper} {st : St} {K : St → Prop} {j : Nat} {sub rest : OT} : runT E Φ ops (.alt j sub rest) st K = (goL E Φ ((ops[j]?).toList.map (strip ops)) st (fun s => runT E Φ ops sub s K) ∧ runT E Φ ops rest st K) := rfl
section
variable {Γ : Ctx} {st : St} {as : List Act} {Φ : Fns} {ρ : Option Nat} {Q : Exit → Act → World → Prop} {ops : Array Oper} {K : St → Prop}
theorem runT_mem {E : Env} {f : Nat} {listed : Array Bool} : ∀ (r : List Nat), runT E Φ ops (r.foldr (fun j o => .alt j (ordT ops f (listed.setIfInBounds j true)) o) .done) st K → ∀ j ∈ r, goL E Φ ((ops[j]?).toList.map (strip ops)) st (fun s => runT E Φ ops (ordT ops f (listed.setIfInBounds j true)) s K)
 | [], _, j, hj => by cases hj
 | i :: r, h, j, hj => by
   simp only [List.foldr_cons, runT] at h
   rcases List.mem_cons.1 hj with rfl | hj
   ·exact h.1
   ·exact runT_mem r h.2 j hj
theorem phaseT (hΦ : Sound Γ.toEnv Φ) (hQ : ∀ st a β w, Sim Γ st a as β w → K st → Q .normal a w) : ∀ (fuel : Nat) (listed : Array Bool) (st : St) (a : Act) (β : Nat → Pl) (w : World), listed.size = ops.size → unl listed ops.size ≤ fuel →
 Sim Γ st a as β w → runT Γ.toEnv Φ ops (ordT ops fuel listed) st K → wpAnyIn (Fw ρ) 0 Γ.P .any ops Q fuel listed a w := by
 intro fuel
 induction fuel with
 | zero =>
   intro listed st a β w hsz hf S h
   refine ⟨?_, hQ st a β w S h⟩
   refine List.eq_nil_iff_forall_not_mem.2 fun j hj => ?_
   obtain ⟨h1, o, ho, _⟩ := mem_ready.1 hj
   have := unl_pos h1 (Array.getElem?_eq_some_iff.1 ho).1
   omega
 | succ fuel ih =>
   intro listed st a β w hsz hf S h
   unfold ordT at h
   refine ⟨fun hnil => ?_, fun j hj => ?_⟩
   ·rw [hnil] at h
    exact hQ st a β w S h
   ·obtain ⟨h1, o, ho, _⟩ := mem_ready.1 hj
    have hjn := (Array.getElem?_eq_some_iff.1 ho).1
    have h' : goL Γ.toEnv Φ ((ops[j]?).toList.map (strip ops)) st (fun s => runT Γ.toEnv Φ ops (ordT ops fuel (listed.setIfInBounds j true)) s K) := by
     revert h
     cases hr : Region.ready .any ops listed with
     | nil => rw [hr] at hj; cases hj
     | cons i r => intro h; exact runT_mem (i :: r) h j (hr ▸ hj)
    rw [ho] at h'
    rw [goL_ok] at h'
    refine goStep (Q := Q) (ρ := ρ) hΦ ho S (l := []) h' fun st' a' β' w' S' h2 => ?_
    refine ih _ st' a' β' w' (by simpa using hsz) ?_ S' h2
    have := unl_set (listed := listed) (j := j) (by omega) h1 hjn
    omega
end
section
variable {E : Env} {Φ : Fns} {ρ : Option Nat} {st : St} {K : Exit → St → Prop} {T q p : Prop}
theorem VC.drawT {id : Nat} {ops : Array Oper} (hΦ : Sound E Φ) (hm : E.P.follows .mixedOrders = true) (o : OT) (ho : ordT ops ops.size (Array.replicate ops.size false) = o) (h : ∀ K' : St → Prop, (∀ s, K .normal s → K' s) → runT E Φ ops o st K') :
 VC E ρ (.region id ops true) st K := fun Γ a as β w hΓ S => by
 subst hΓ
 refine wpIn_region_any hm ?_
 exact phaseT (Γ := Γ) (as := as) (K := K .normal) (Q := fun e a w => ∃ st' β', Sim Γ st' a as β' w ∧ K e st') hΦ (fun st a β w S k => ⟨st, β, S, k⟩) ops.size (Array.replicate ops.size false) st a β w.drew (by simp) (unl_le _ _) S.drew (by rw [ho]; exact h _ fun _ k => k)
theorem dT {id : Nat} {ops : Array Oper} {y : Code} (hΦ : Sound E Φ) (o : OT) (ts : List Nat) (e : T) (h : q) (k : VC E ρ (.seq (.region id ops true) y) st K → p := by exact fun h => nx h)
 (hm : E.P.follows .mixedOrders = true := by kernel_rfl) (ho : ordT ops ops.size (Array.replicate ops.size false) = o := by kernel_rfl)
 (k2 : T → Hid q → ∀ K' : St → Prop, (∀ s, VC E ρ y (s.keep ts) K → K' s) → runT E Φ ops o st K' := by
  intro e h K' hK
  simp only [runT_alt, runT_stop, runT_done, List.getElem?_toArray, List.getElem?_cons_succ, List.getElem?_cons_zero, Option.toList_some, List.map_cons, List.map_nil]
  dsimp only [strip, stripG]
  try simp only [gtmp, List.getElem?_toArray, List.getElem?_cons_succ, List.getElem?_cons_zero, Option.bind_some]
  simp -implicitDefEqProofs only [go_sem, e]
  repeat' first
   | with_reducible apply And.intro
   | exact trivial
   | (refine hK _ ?_; apply VC.atR h.out; (try simp -implicitDefEqProofs only [go_sem, e]); (try simp (disch := omega) only [i64_in, u64_in, tmodN, tdivN]); first | exact rfl | done)
   | exact sd
   | exact sde e
   | exact sdp e
   | fail) : p := k (VC.seq (VC.drawT hΦ hm o ho fun K' hK => k2 e ⟨h⟩ K' fun s hs => hK s (hs.ent (Ent.keep s ts))))
end
end Go.Proofs.YtpajpkbipagjpaaGreatDoor.Vm
namespace Go.Proofs.YtpajpkbipagjpaaGreatDoor.Vm
open Go Go.RowKit Go.IntWalk
section
variable {E : Env} {Φ : Fns} {ρ : Option Nat} {st : St} {K : Exit → St → Prop}
end
end Go.Proofs.YtpajpkbipagjpaaGreatDoor.Vm

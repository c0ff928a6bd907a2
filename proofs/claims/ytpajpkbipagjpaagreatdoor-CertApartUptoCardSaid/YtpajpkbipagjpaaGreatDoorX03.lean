/- An abstract machine over values, that the program's machine follows it, and its rules (X03). No condition. -/
import Derived.Test.YtpajpkbipagjpaaGreatDoorX02
import Derived.ChangeSlices
import Derived.WideShapes
import Derived.DataReads
import Derived.ChangeArms
import Derived.OpenShut
import GoSem.ClaimChange
import Derived.IntWalk
set_option linter.unusedVariables false
set_option linter.unusedSimpArgs false
namespace Go.Proofs.YtpajpkbipagjpaaGreatDoor.Vm
open Go Go.RowKit
def All (W : World) : Cset := fun b _ => b < W.heap.size
theorem bytes_of (zs : List Int) (h : ∀ n ∈ zs, (Lit.int .u8 n).wf = true) : ∃ l : List UInt8, (zs.map fun z => ([.int .u8 z] : List Data)) = bytesD l ∧ l.length = zs.length := by
 refine ⟨zs.map fun z => UInt8.ofNat z.toNat, ?_, by simp⟩
 unfold bytesD
 rw [List.map_map]
 refine List.map_congr_left fun z hz => ?_
 have := h z hz
 simp [Lit.wf, IntKind.min, IntKind.max, IntKind.bits, IntKind.signed] at this
 simp only [Function.comp, UInt8.toNat_ofNat']
 rw [Nat.mod_eq_of_lt (by omega)]
 simp; omega
end Go.Proofs.YtpajpkbipagjpaaGreatDoor.Vm
namespace Go.Proofs.YtpajpkbipagjpaaGreatDoor.Vm
open Go
@[go_sem] theorem byteAt_0 (s : List UInt8) : byteAt s 0 = s.getD 0 0 := rfl
end Go.Proofs.YtpajpkbipagjpaaGreatDoor.Vm
namespace Go.Proofs.YtpajpkbipagjpaaGreatDoor.Vm
open Go
theorem Ent.frzT {s s' : St} {t : Nat} {d : D} {x : Data} (h : look s.c.t t = d) (hz : frz s d = some (x, s')) : Ent s (s'.put t (.dat x)) := fun Γ a as β w S => by
 obtain ⟨hA, hv⟩ := frz_ok d S (h ▸ S.get t) hz
 exact ⟨β, hA.1.know (by simpa [RVD] using hv)⟩
theorem Ent.move {s : St} (t l l' : Nat) {o n e sz fz : Nat} {xs : List (List Data)} (hm : s.noMark l) (hm' : s.noMark l') (ht : look s.c.t t = .sl l o n) (hf : find s.h l = some (.arr e sz xs fz)) : Ent s (((s.erase l).add l' (.arr e sz xs fz)).put t (.sl l' o n)) := fun Γ a as β w S => by
 have h := S.get t
 rw [ht] at h
 refine ⟨_, (S.rename hf hm hm').1.know ?_⟩
 simp only [RVD, upd_same] at h ⊢
 exact h
end Go.Proofs.YtpajpkbipagjpaaGreatDoor.Vm
namespace Go.Proofs.YtpajpkbipagjpaaGreatDoor.Vm
open Go Go.RowKit
structure OFn where
 pre : List Data → Prop
 e : Nat
 sz : Nat
 row : List Data → List (List Data)
 rest : List Data → List Data
def FreshO (J : Cset) (w w' : World) (pl : Pl) : Cset := fun b o => J b o ∨ (w.heap.size ≤ b ∧ b < w'.heap.size ∧ ∀ c s, pl ≠ .blk b c s)
def RowOK (w w' : World) (I : Cset) (pl : Pl) (e sz : Nat) (xs : List (List Data)) : Prop :=
 0 < sz ∧ (∀ x ∈ xs, x.length = sz) ∧ ((pl = .nil ∧ xs = []) ∨
  ∃ b cap cur, pl = .blk b cap sz ∧ w.heap.size ≤ b ∧ w'.heap[b]? = some (.cells cur e (0, 0)) ∧ xs.length ≤ cap ∧ cap ≤ maxLen ∧ cur.size = cap * sz ∧
   ∀ (j : Nat) (d : Data), xs.flatten[j]? = some d → d.one = true ∧ ∃ v, cur[j]? = some v ∧ RV w' I d v)
def rowD (l : Nat) (xs : List (List Data)) (rest : List Data) : D := tupD (.sl l 0 xs.length :: rest.map .dat)
def Own (E : Env) (f : Nat) (p : OFn) : Prop := ∀ (w : World) (J : Cset) (args : Array Value) (ds : List Data), (∀ b o, J b o → b < w.heap.size) → Glob E w J → RVs w J ds args.toList → p.pre ds →
 CallsIn (Fw none) 0 E.P f args w fun e w' => ∃ v pl, e = .returned v ∧ Below w.heap.size w w' ∧ RowOK w w' (FreshO J w w' pl) pl p.e p.sz (p.row ds) ∧ RVD w' (FreshO J w w' pl) (fun _ => pl) (rowD 0 (p.row ds) (p.rest ds)) v
theorem dats_beta {w : World} {I : Cset} {β β' : Nat → Pl} : ∀ {ds : List Data} {vs : List Value}, RVDs w I β (ds.map .dat) vs → RVDs w I β' (ds.map .dat) vs
 | [], vs, h => h
 | d :: ds, vs, h => by
   simp only [List.map_cons, RVDs] at h ⊢
   obtain ⟨v, r, rfl, h1, h2⟩ := h
   exact ⟨v, r, rfl, h1, dats_beta h2⟩
theorem rowD_name {w : World} {I : Cset} {β β' : Nat → Pl} {l l' : Nat} {xs : List (List Data)} {rest : List Data} {v : Value} (hb : β' l' = β l) (h : RVD w I β (rowD l xs rest) v) : RVD w I β' (rowD l' xs rest) v := by
 have key : ∀ u, RVD w I β (.sl l 0 xs.length) u → RVD w I β' (.sl l' 0 xs.length) u := by
  intro u hu
  simp only [RVD, hb] at hu ⊢
  exact hu
 unfold rowD at h ⊢
 cases rest with
 | nil => exact key v h
 | cons r rs =>
   simp only [List.map_cons, tupD, RVD] at h ⊢
   obtain ⟨vs, rfl, h⟩ := h
   refine ⟨vs, rfl, ?_⟩
   rw [RVDs] at h ⊢
   obtain ⟨u, r', e, h1, h2⟩ := h
   exact ⟨u, r', e, key u h1, dats_beta (ds := _ :: _) h2⟩
section
variable {Γ : Ctx} {st : St} {a : Act} {as : List Act} {β : Nat → Pl} {w : World}
theorem Sim.adopt (S : Sim Γ st a as β w) {w' : World} (hw : Below w.heap.size w w') {l e sz : Nat} {xs : List (List Data)} {pl : Pl} (hm : st.noMark l)
 (hR : RowOK w w' (FreshO (Im Γ β st.h w) w w' pl) pl e sz xs) :
 Sim Γ (st.add l (.arr e sz xs 0)) a as (upd β l pl) w' ∧ Keeps w' (FreshO (Im Γ β st.h w) w w' pl) w' (Im Γ (upd β l pl) (st.add l (.arr e sz xs 0)).h w') := by
 obtain ⟨S2, K2⟩ := S.called hw
 have hβ : ∀ k, k ≠ l → upd β l pl k = β k := upd_ne
 have hge : ∀ b c s, pl = .blk b c s → w.heap.size ≤ b := by
  obtain ⟨_, _, h⟩ := hR
  rcases h with ⟨h, _⟩ | ⟨b0, cap, cur, h, h1, _⟩
  ·intro b c s e; rw [h] at e; cases e
  ·intro b c s e; rw [h] at e; injection e with e; subst e; exact h1
 have hfind : ∀ k B, find (st.add l (.arr e sz xs 0)).h k = some B → (k = l ∧ B = .arr e sz xs 0) ∨ (k ≠ l ∧ ∃ B0, find st.h k = some B0 ∧ B = B0.erase l) := by
  intro k B h
  simp only [St.add, find_cons, find_hErase] at h
  by_cases e : l = k
  ·rw [if_pos e] at h; cases h; exact .inl ⟨e.symm, rfl⟩
  ·rw [if_neg e, if_neg (fun h => e h.symm)] at h
   obtain ⟨B1, h0, h1⟩ := Option.map_eq_some_iff.1 h
   exact .inr ⟨fun h => e h.symm, B1, h0, h1.symm⟩
 have K : Keeps w' (FreshO (Im Γ β st.h w) w w' pl) w' (Im Γ (upd β l pl) (st.add l (.arr e sz xs 0)).h w') := by
  intro b o h
  refine ⟨?_, rfl⟩
  have old : ∀ k B, find (st.add l (.arr e sz xs 0)).h k = some B → Mut (upd β l pl) k B b o → (∃ c s, pl = .blk b c s) ∨ ∃ B0, find st.h k = some B0 ∧ Mut β k B0 b o := by
   intro k B hB hmu
   rcases hfind k B hB with ⟨rfl, rfl⟩ | ⟨hk, B0, h0, rfl⟩
   ·simp only [Mut, upd_same] at hmu
    obtain ⟨c, s, h, _⟩ := hmu
    exact .inl ⟨c, s, h⟩
   ·exact .inr ⟨B0, h0, (Mut.erase (hβ k hk) B0 b o).1 hmu⟩
  rcases h with h | ⟨h1, h2, h3⟩
  ·have hlt : b < w.heap.size := by
    rcases h with h | h
    ·exact Nat.lt_of_lt_of_le (S.hJ b o h) S.below.size
    ·exact h.2.1
   rcases (K2 b o h).1 with h' | ⟨g1, g2, g3⟩
   ·exact .inl h'
   ·refine .inr ⟨g1, g2, fun k B hB hmu => ?_⟩
    rcases old k B hB hmu with ⟨c, s, hp⟩ | ⟨B0, h0, hmu⟩
    ·have := hge b c s hp; omega
    ·exact g3 k B0 h0 hmu
  ·refine .inr ⟨Nat.le_trans S.below.size h1, h2, fun k B hB hmu => ?_⟩
   rcases old k B hB hmu with ⟨c, s, hp⟩ | ⟨B0, h0, hmu⟩
   ·exact h3 c s hp
   ·obtain ⟨c, sz, hb⟩ := hmu.block
    have := (S.lt h0 hb).1
    omega
 have K3 : Keeps w (Im Γ β st.h w) w' (Im Γ (upd β l pl) (st.add l (.arr e sz xs 0)).h w') := fun b o h => ⟨(K b o (.inl h)).1, (K2 b o h).2⟩
 refine ⟨⟨S2.below, S.hJ, S.glob.keeps K3, ?_, (S.cur.keeps K3).erase hβ hm.1, (S.stk.keeps K3).erase hβ hm.2, ?_⟩, K⟩
 ·intro k k' B1 B2 b c c' s s' h1 h2 e1 e2
  rcases hfind k B1 h1 with ⟨rfl, rfl⟩ | ⟨hk, C1, f1, rfl⟩
  ·rw [upd_same] at e1
   rcases hfind k' B2 h2 with ⟨rfl, rfl⟩ | ⟨hk', C2, f2, rfl⟩
   ·rfl
   ·rw [hβ k' hk'] at e2
    have h3 := hge b c s e1
    have h4 := (S.lt f2 e2).1
    omega
  ·rw [hβ k hk] at e1
   rcases hfind k' B2 h2 with ⟨rfl, rfl⟩ | ⟨hk', C2, f2, rfl⟩
   ·rw [upd_same] at e2
    have h3 := hge b c' s' e2
    have h4 := (S.lt f1 e1).1
    omega
   ·exact S.apart k k' C1 C2 b c c' s s' f1 f2 e1 (by rw [← hβ k' hk']; exact e2)
 ·intro k B hB
  rcases hfind k B hB with ⟨rfl, rfl⟩ | ⟨hk, B0, h0, rfl⟩
  ·obtain ⟨q1, q3, q4⟩ := hR
   refine ⟨q1, Nat.zero_le _, q3, ?_⟩
   rw [upd_same]
   rcases q4 with q4 | ⟨b, cap, cur, h1, h2, h3, h4, h5, h6, h7⟩
   ·exact .inl q4
   ·refine .inr ⟨b, cap, cur, h1, Nat.le_trans S.below.size h2, h3, h4, h5, h6, fun j d hd => ?_⟩
    obtain ⟨r1, v, r2, r3⟩ := h7 j d hd
    exact ⟨r1, v, r2, r3.keeps K⟩
  ·exact (S.heap k B0 h0).carry K3 hβ hk fun b c sz hb => hw.block b (S.lt h0 hb).1
end
theorem VCcall.own {E : Env} {f : Nat} {p : OFn} {ds : List D} {st st1 : St} {K : D → St → Prop} {xs : List Data} (h : Own E f p) (l : Nat) (hz : frzs st ds = some (xs, st1)) (hp : p.pre xs) (hm : st1.noMark l)
 (hK : K (rowD l (p.row xs) (p.rest xs)) (st1.add l (.arr p.e p.sz (p.row xs) 0))) : VCcall E f ds st K := by
 intro Γ a as β w args hΓ S hargs
 subst hΓ
 obtain ⟨⟨S', K'⟩, hrv⟩ := frzs_ok ds S hargs hz
 have hI : ∀ b o, Im Γ β st1.h w b o → b < w.heap.size := by
  intro b o hi
  rcases hi with hi | hi
  ·exact Nat.lt_of_lt_of_le (S'.hJ b o hi) S'.below.size
  ·exact hi.2.1
 refine (h w _ args xs hI S'.glob hrv hp).mono fun e w' he => ?_
 obtain ⟨v, pl, rfl, hb, hR, hv⟩ := he
 obtain ⟨S3, K3⟩ := S'.adopt hb hm hR
 exact ⟨v, _, _, _, rfl, S3, rowD_name (upd_same _ _ _) (RVD.keeps K3 _ _ hv), hK⟩
def datsOf : List D → Option (List Data)
 | [] => some []
 | .dat d :: r => (datsOf r).map (d :: ·)
 | _ => none
theorem datsOf_ok : ∀ {ds : List D} {xs : List Data}, datsOf ds = some xs → ds = xs.map .dat
 | [], xs, h => by simp only [datsOf, Option.some.injEq] at h; subst h; rfl
 | .dat d :: r, xs, h => by
   simp only [datsOf, Option.map_eq_some_iff] at h
   obtain ⟨ys, h1, rfl⟩ := h
   rw [datsOf_ok h1]; rfl
 | .nilsl :: r, xs, h => by simp [datsOf] at h
 | .ref _ _ :: r, xs, h => by simp [datsOf] at h
 | .sl _ _ _ :: r, xs, h => by simp [datsOf] at h
 | .eref _ _ _ :: r, xs, h => by simp [datsOf] at h
 | .agg _ :: r, xs, h => by simp [datsOf] at h
 | .tup _ :: r, xs, h => by simp [datsOf] at h
 | .fn _ _ _ :: r, xs, h => by simp [datsOf] at h
 | .yld _ :: r, xs, h => by simp [datsOf] at h
 | .junk :: r, xs, h => by simp [datsOf] at h
def ownS (P : Program) (rs : List ResultVar) (e sz : Nat) (row : List (List Data)) (rest : List Data) (s : St) : Prop :=
 (∀ l ∈ s.c.m, find s.h l = some .defer) ∧ s.c.m.Nodup ∧
  match resD P ⟨s.c, s.s, dropH s.c.m s.h⟩ rs with
  | some (.nilsl :: ds) => 0 < sz ∧ row = [] ∧ datsOf ds = some rest
  | some (.sl l o n :: ds) => o = 0 ∧ n = row.length ∧ find (dropH s.c.m s.h) l = some (.arr e sz row 0) ∧ datsOf ds = some rest
  | _ => False
def ownK (P : Program) (rs : List ResultVar) (e sz : Nat) (row : List (List Data)) (rest : List Data) : Exit → St → Prop
 | .normal, s => ownS P rs e sz row rest s
 | .ret, s => ownS P rs e sz row rest s
 | _, _ => False
theorem Own.of_body {E : Env} {g : Nat} {pf : OFn} {fn : Func} {c : Code} {rs : List ResultVar} {n : Nat} (hf : E.P.funcs[g]? = some fn) (hb : fn.body = some c) (hrs : fn.results.toList = rs) (hnt : fn.ntmps = n)
 (h : ∀ ds, pf.pre ds → ds.length ≤ n ∧ VC E none c (pureSt n ds) (ownK E.P rs pf.e pf.sz (pf.row ds) (pf.rest ds))) : Own E g pf := by
 subst hrs
 subst hnt
 intro w J args ds hJ hG hargs hpre
 obtain ⟨hlen, hvc⟩ := h ds hpre
 let Γ : Ctx := ⟨E, w, J, fun _ => 0⟩
 have hK : Keeps w J w (Im Γ (fun _ => .nil) [] w) := fun b o hj => ⟨.inl hj, rfl⟩
 have S : Sim Γ (pureSt fn.ntmps ds) { tmps := args ++ Array.replicate (fn.ntmps - args.size) undef, defers := [] } [] (fun _ => .nil) w := by
  refine ⟨Below.refl _ _, hJ, hG.keeps hK, ?_, ?_, ?_, ?_⟩
  ·intro l l' B B' b c c' sz sz' h1; simp [pureSt, find] at h1
  ·exact enter_frame (RVs.dats (RVs.keeps hK _ _ hargs)) (by simpa using hlen)
  ·exact rfl
  ·intro l B hB; simp [pureSt, find] at hB
 refine callsIn_of_wp_marks hf hb trivial (wpIn_mono (hvc Γ _ [] _ w rfl S) ?_)
 rintro e a' w' ⟨s, β', S', k⟩
 have ret : ownS E.P fn.results.toList pf.e pf.sz (pf.row ds) (pf.rest ds) s → LeavesInM (Fw none) 0 E.P fn a'.tmps (fun e w' => ∃ v pl, e = .returned v ∧ Below w.heap.size w w' ∧ RowOK w w' (FreshO J w w' pl) pl pf.e pf.sz (pf.row ds) ∧ RVD w' (FreshO J w w' pl) (fun _ => pl) (rowD 0 (pf.row ds) (pf.rest ds)) v) a'.defers .returning w' := by
  rintro ⟨k1, k2, k3⟩
  rw [S'.cur.2.2]
  refine leaves_ok (Γ := Γ) s.c.m S' k1 k2 fun w'' S'' => ?_
  split at k3
  ·rename_i ds' hds
   obtain ⟨v, h1, h2⟩ := results_ok S'' (fn := fn) hds
   obtain ⟨k4, k5, k6⟩ := k3
   have k6 := datsOf_ok k6
   subst k6
   refine ⟨v, h1, v, .nil, rfl, S''.below, ⟨k4, by rw [k5]; simp, .inl ⟨rfl, k5⟩⟩, ?_⟩
   have hk : Keeps w'' (Im Γ β' (dropH s.c.m s.h) w'') w'' (FreshO J w w'' .nil) := by
    intro b o hi
    refine ⟨?_, rfl⟩
    rcases hi with hi | ⟨g1, g2, _⟩
    ·exact .inl hi
    ·exact .inr ⟨g1, g2, fun c s e => by cases e⟩
   have h3 := RVD.keeps hk _ _ h2
   have key : ∀ u, RVD w'' (FreshO J w w'' .nil) β' .nilsl u → RVD w'' (FreshO J w w'' .nil) (fun _ => .nil) (.sl 0 0 (pf.row ds).length) u := by
    intro u hu
    rw [k5]
    simp only [RVD] at hu
    obtain ⟨a, rfl⟩ := hu
    exact RVD.nilrow rfl a
   unfold rowD
   cases hr : pf.rest ds with
   | nil => rw [hr] at h3; exact key v h3
   | cons r rs =>
     rw [hr] at h3
     simp only [List.map_cons, tupD, RVD] at h3 ⊢
     obtain ⟨vs, rfl, h3⟩ := h3
     refine ⟨vs, rfl, ?_⟩
     rw [RVDs] at h3 ⊢
     obtain ⟨u, r', e, h1, h2⟩ := h3
     exact ⟨u, r', e, by simpa [RVD] using key u h1, dats_beta (ds := _ :: _) h2⟩
  ·rename_i l o n ds' hds
   obtain ⟨v, h1, h2⟩ := results_ok S'' (fn := fn) hds
   obtain ⟨rfl, rfl, k5, k6⟩ := k3
   have k6 := datsOf_ok k6
   subst k6
   obtain ⟨q1, q2, q3, q4⟩ := S''.heap l _ k5
   have hk : Keeps w'' (Im Γ β' (dropH s.c.m s.h) w'') w'' (FreshO J w w'' (β' l)) := by
    intro b o hi
    refine ⟨?_, rfl⟩
    rcases hi with hi | ⟨g1, g2, g3⟩
    ·exact .inl hi
    ·exact .inr ⟨g1, g2, fun c s e => g3 l _ k5 ⟨c, s, e, by simp⟩⟩
   refine ⟨v, h1, v, β' l, rfl, S''.below, ⟨q1, q3, ?_⟩, ?_⟩
   ·rcases q4 with q4 | ⟨b, cap, cur, h1, h2, h3, h4, h5, h6, h7⟩
    ·exact .inl q4
    ·refine .inr ⟨b, cap, cur, h1, h2, h3, h4, h5, h6, fun j d hd => ?_⟩
     obtain ⟨r1, v, r2, r3⟩ := h7 j d hd
     exact ⟨r1, v, r2, r3.keeps hk⟩
   ·exact rowD_name (β := β') (β' := fun _ => β' l) (l := l) (l' := 0) rfl (RVD.keeps hk _ _ h2)
  ·exact k3.elim
 cases e with
 | normal => exact ret k
 | ret => exact ret k
 | _ => exact k.elim
end Go.Proofs.YtpajpkbipagjpaaGreatDoor.Vm
namespace Go.Proofs.YtpajpkbipagjpaaGreatDoor.Vm
open Go Go.RowKit
theorem FreshO.keeps {J : Cset} {w w' : World} {pl : Pl} : Keeps w' (FreshO J w w' pl) w' (Fresh J w w') := fun b o h => ⟨h.imp id fun h => ⟨h.1, h.2.1⟩, rfl⟩
theorem RowOK.shut {J : Cset} {w w' : World} {pl : Pl} {e sz : Nat} {xs : List (List Data)} (h : RowOK w w' (FreshO J w w' pl) pl e sz xs) {v : Value} (hv : RVD w' (FreshO J w w' pl) (fun _ => pl) (.sl 0 0 xs.length) v) :
 RV w' (Fresh J w w') (.lst xs) v := by
 obtain ⟨p1, p3, p4⟩ := h
 simp only [RVD] at hv
 simp only [RV]
 rcases hv with ⟨hb, _, hn, a, rfl⟩ | ⟨b, c, sz', ad, hb, hle, rfl, had⟩
 ·exact ⟨a, 0, 0, rfl, hn.symm, Nat.le_refl _, .inl (List.eq_nil_of_length_eq_zero hn)⟩
 ·rcases p4 with ⟨q, _⟩ | ⟨b', cap, cur, hb', hge, hh, hn', hm, hcs, hcells⟩
  ·rw [hb] at q; cases q
  ·rw [hb] at hb'; injection hb' with e1 e2 e3; subst e1 e2 e3
   refine ⟨ad, xs.length, c - 0, rfl, rfl, by omega, ?_⟩
   by_cases hn0 : xs.length = 0
   ·exact .inl (List.eq_nil_of_length_eq_zero hn0)
   ·right
    have had' : ad = some ⟨b, 0, none⟩ := by
     rcases had with g | g
     ·simpa using g
     ·omega
    have hlt : b < w'.heap.size := (Array.getElem?_eq_some_iff.1 hh).1
    refine ⟨b, 0, sz', had', p1, RE.mk fun i x hi => ?_⟩
    have hio := (List.getElem?_eq_some_iff.1 hi).1
    have hxl : x.length = sz' := p3 x (List.mem_of_getElem? hi)
    refine ⟨hxl, RC.mk fun j d hj => ?_⟩
    have hjl := (List.getElem?_eq_some_iff.1 hj).1
    have hflat : xs.flatten[i * sz' + j]? = some d := by
     rw [flatten_get p3 hio (by omega), ← hj]
     rw [List.getElem?_eq_getElem hio] at hi
     rw [Option.some.inj hi]
    obtain ⟨h1, u, hu, hr⟩ := hcells _ d hflat
    refine ⟨u, ?_, .inr ⟨hge, hlt⟩, h1, hr.keeps FreshO.keeps⟩
    rw [show 0 + i * sz' + j = i * sz' + j by omega]
    simp only [World.cell?, hh, Option.isSome_none, Bool.false_eq_true, if_false]
    exact hu
def OFn.shut (p : OFn) : PFn := ⟨p.pre, fun ds => .lst (p.row ds) :: p.rest ds⟩
theorem Own.pure {E : Env} {f : Nat} {p : OFn} (h : Own E f p) : Pure E f p.shut := by
 intro w J args ds hJ hG hargs hpre
 refine (h w J args ds hJ hG hargs hpre).mono fun e w' he => ?_
 obtain ⟨v, pl, rfl, hb, hR, hv⟩ := he
 refine ⟨v, rfl, hb, ?_⟩
 show RVD w' (Fresh J w w') (fun _ => .nil) (retD (.lst (p.row ds) :: p.rest ds)) v
 unfold rowD at hv
 cases hr : p.rest ds with
 | nil => rw [hr] at hv; exact hR.shut hv
 | cons r rs =>
   rw [hr] at hv
   simp only [List.map_cons, tupD, RVD] at hv
   simp only [retD, List.map_cons, RVD]
   obtain ⟨vs, rfl, hv⟩ := hv
   refine ⟨vs, rfl, ?_⟩
   rw [RVDs] at hv ⊢
   obtain ⟨u, r', e, h1, h2⟩ := hv
   refine ⟨u, r', e, ?_, dats_beta (ds := _ :: _) (RVDs.keeps FreshO.keeps _ _ h2)⟩
   simpa only [RVD] using hR.shut h1
section
variable {α : Type} {A : α → List Data} {pre : α → Prop} {e sz : Nat} {row : α → List (List Data)} {rest : α → List Data}
end
attribute [go_sem] ownK ownS datsOf rowD tupD OFn.shut
end Go.Proofs.YtpajpkbipagjpaaGreatDoor.Vm
namespace Go.Proofs.YtpajpkbipagjpaaGreatDoor.Vm
open Go Go.RowKit
theorem Pure.of_calls {E : Env} {f : Nat} {α : Type} {A : α → List Data} {pre : α → Prop} {res : α → List Data} (hA : ∀ x y, A x = A y → x = y)
 (h : ∀ (w : World) (J : Cset) (args : Array Value) (x : α), (∀ b o, J b o → b < w.heap.size) → Glob E w J → RVs w J (A x) args.toList → pre x →
 Calls E.P f args w fun e w' => ∃ v, e = .returned v ∧ Below w.heap.size w w' ∧ RVD w' (Fresh J w w') (fun _ => .nil) (retD (res x)) v) : Pure E f (PFn.of A pre res) := by
 intro w J args ds hJ hG hargs hpre
 obtain ⟨x, rfl, hx⟩ := hpre
 rw [PFn.of_res hA]
 exact callsIn_wide.2 (h w J args x hJ hG hargs hx)
theorem args1 {w : World} {J : Cset} {d : Data} {args : Array Value} (h : RVs w J [d] args.toList) : ∃ v, args = #[v] ∧ RV w J d v := by
 simp only [RVs] at h
 obtain ⟨v, r, e, h1, rfl⟩ := h
 exact ⟨v, Array.ext' (by rw [e]), h1⟩
theorem args2 {w : World} {J : Cset} {d d2 : Data} {args : Array Value} (h : RVs w J [d, d2] args.toList) : ∃ v v2, args = #[v, v2] ∧ RV w J d v ∧ RV w J d2 v2 := by
 simp only [RVs] at h
 obtain ⟨v, r, e, h1, v2, r2, e2, h2, rfl⟩ := h
 exact ⟨v, v2, Array.ext' (by rw [e, e2]), h1, h2⟩
theorem args3 {w : World} {J : Cset} {d d2 d3 : Data} {args : Array Value} (h : RVs w J [d, d2, d3] args.toList) : ∃ v v2 v3, args = #[v, v2, v3] ∧ RV w J d v ∧ RV w J d2 v2 ∧ RV w J d3 v3 := by
 simp only [RVs] at h
 obtain ⟨v, r, e, h1, v2, r2, e2, h2, v3, r3, e3, h3, rfl⟩ := h
 exact ⟨v, v2, v3, Array.ext' (by rw [e, e2, e3]), h1, h2, h3⟩
theorem args5 {w : World} {J : Cset} {d d2 d3 d4 d5 : Data} {args : Array Value} (h : RVs w J [d, d2, d3, d4, d5] args.toList) : ∃ v v2 v3 v4 v5, args = #[v, v2, v3, v4, v5] ∧ RV w J d v ∧ RV w J d2 v2 ∧ RV w J d3 v3 ∧ RV w J d4 v4 ∧ RV w J d5 v5 := by
 simp only [RVs] at h
 obtain ⟨v, r, e, h1, v2, r2, e2, h2, v3, r3, e3, h3, v4, r4, e4, h4, v5, r5, e5, h5, rfl⟩ := h
 exact ⟨v, v2, v3, v4, v5, Array.ext' (by rw [e, e2, e3, e4, e5]), h1, h2, h3, h4, h5⟩
theorem numsD_take_len (l : List Nat) : (numsD l).take l.length = numsD l := List.take_of_length_le (by rw [numsD_len]; exact Nat.le_refl _)
def strsD (l : List (List UInt8)) : List (List Data) := l.map fun s => [.str s]
@[go_sem] theorem strsD_len (l : List (List UInt8)) : (strsD l).length = l.length := by simp [strsD]
theorem strsD_inj {l m : List (List UInt8)} : strsD l = strsD m ↔ l = m := by
 constructor
 ·intro h
  have hf : Function.Injective (fun s : List UInt8 => ([.str s] : List Data)) := fun a b e => by simpa using e
  exact (List.map_inj_right (fun a b e => hf e)).1 h
 ·rintro rfl; rfl
theorem RE.strs {w : World} {J : Cset} : ∀ (l : List (List UInt8)) (b o : Nat), RE w J 1 (strsD l) b o → ∀ j s, l[j]? = some s → w.cell? ⟨b, o + j, none⟩ = some (.string ⟨s.toArray⟩) ∧ J b (o + j)
 | [], b, o, h, j, s, hj => by simp at hj
 | x :: l, b, o, h, j, s, hj => by
   simp only [strsD, List.map_cons, RE, RC, RV] at h
   obtain ⟨_, ⟨⟨v, h1, h2, _, h3⟩, _⟩, hr⟩ := h
   cases j with
   | zero =>
     simp only [List.getElem?_cons_zero, Option.some.injEq] at hj; subst hj
     exact ⟨by rw [Nat.add_zero, h1, h3], h2⟩
   | succ j =>
     have := RE.strs l b (o + 1) hr j s (by simpa using hj)
     rw [show o + (j + 1) = o + 1 + j by omega]
     exact this
theorem dropL_eq (l : Nat) : ∀ h : List (Nat × Blk), dropH [l] h = dropL l h
 | [] => rfl
 | x :: r => by
   have ih := dropL_eq l r
   simp only [dropH, List.foldl_cons, List.foldl_nil] at ih ⊢
   rw [List.filter_cons, dropL, ← ih]
   by_cases h : x.1 = l
   ·simp [h]
   ·simp [h]
theorem pureS_one {P : Program} {rs : List ResultVar} {res : List Data} {n l : Nat} {tm : Tm} {s : List Fr} {h : List (Nat × Blk)} (hf : find h l = some .defer) (h4 : pureR P rs res ⟨⟨n, tm, [l]⟩, s, dropL l h⟩) : pureS P rs res ⟨⟨n, tm, [l]⟩, s, h⟩ :=
 pureS_intro (by simpa using hf) (by simp) (dropL_eq l h) h4
def ownR (P : Program) (rs : List ResultVar) (e sz : Nat) (row : List (List Data)) (rest : List Data) (s : St) : Prop :=
 match resD P s rs with
 | some (.nilsl :: ds) => 0 < sz ∧ row = [] ∧ datsOf ds = some rest
 | some (.sl l o n :: ds) => o = 0 ∧ n = row.length ∧ find s.h l = some (.arr e sz row 0) ∧ datsOf ds = some rest
 | _ => False
theorem ownK_r {P : Program} {rs : List ResultVar} {e sz : Nat} {row : List (List Data)} {rest : List Data} {s : St} (h : ownS P rs e sz row rest s) : ownK P rs e sz row rest .ret s := h
theorem ownS_intro {P : Program} {rs : List ResultVar} {e sz : Nat} {row : List (List Data)} {rest : List Data} {s : St} {h' : List (Nat × Blk)} (h1 : ∀ l ∈ s.c.m, find s.h l = some .defer) (h2 : s.c.m.Nodup) (h3 : dropH s.c.m s.h = h') (h4 : ownR P rs e sz row rest ⟨s.c, s.s, h'⟩) : ownS P rs e sz row rest s :=
 ⟨h1, h2, by rw [h3]; exact h4⟩
theorem ownS_marks {P : Program} {rs : List ResultVar} {e sz : Nat} {row : List (List Data)} {rest : List Data} {n k : Nat} {tm : Tm} {s : List Fr} {h h' : List (Nat × Blk)} (he : h' = h ++ marksH k) (hh : ∀ x ∈ h, x.1 < 100) (h4 : ownR P rs e sz row rest ⟨⟨n, tm, marks k⟩, s, h⟩) : ownS P rs e sz row rest ⟨⟨n, tm, marks k⟩, s, h'⟩ := by
 subst he
 exact ownS_intro (defers_all hh) (marks_nodup k) (dropH_marks k h hh) h4
attribute [go_sem] ownR
end Go.Proofs.YtpajpkbipagjpaaGreatDoor.Vm
namespace Go.Proofs.YtpajpkbipagjpaaGreatDoor.Vm
open Go Go.RowKit
section
variable {E : Env} {st st' : St} (hm : ∀ k B, find st.h k = some B → find st'.h k = some B)
include hm
theorem evLoad_mono (t : TypeId) (x : D) : evLoad E st t x = .stop ∨ evLoad E st' t x = evLoad E st t x := by
 cases x with
 | dat d => right; cases d <;> rfl
 | ref l o =>
   cases hf : find st.h l with
   | none => left; unfold evLoad; cases kindT E.P t <;> simp [hf]
   | some B => right; unfold evLoad; cases kindT E.P t <;> simp [hf, hm _ _ hf]
 | eref l i o =>
   cases hf : find st.h l with
   | none => left; unfold evLoad; cases kindT E.P t <;> simp [hf]
   | some B => right; unfold evLoad; cases kindT E.P t <;> simp [hf, hm _ _ hf]
 | _ => right; rfl
theorem rdD_mono (x : D) : rdD st x = none ∨ rdD st' x = rdD st x := by
 cases x with
 | dat d => right; cases d <;> rfl
 | sl l o n =>
   cases hf : find st.h l with
   | none => left; simp [rdD, hf]
   | some B => right; simp only [rdD]; rw [hf, hm _ _ hf]
 | _ => right; rfl
theorem evIndexAddr_mono (t : TypeId) (x i : D) : evIndexAddr E st t x i = .stop ∨ evIndexAddr E st' t x i = evIndexAddr E st t x i := by
 cases x with
 | dat d => right; cases d <;> rfl
 | sl l o n =>
   cases hf : find st.h l with
   | none =>
     left; unfold evIndexAddr
     cases kindT E.P t with
     | slice e =>
       cases i with
       | dat d => cases d <;> simp [hf] <;> (cases kindT E.P e <;> simp [hf])
       | _ => rfl
     | arr m e =>
       cases i with
       | dat d => cases d <;> simp <;> (cases kindT E.P e <;> simp)
       | _ => rfl
     | _ => rfl
   | some B =>
     right; unfold evIndexAddr
     cases kindT E.P t with
     | slice e =>
       cases i with
       | dat d => cases d <;> simp [hf, hm _ _ hf]
       | _ => rfl
     | arr m e =>
       cases i with
       | dat d => cases d <;> rfl
       | _ => rfl
     | _ => rfl
 | _ => right; rfl
theorem evSlice_mono (t : TypeId) (x : D) (lo hi mx : Option D) : evSlice E st t x lo hi mx = .stop ∨ evSlice E st' t x lo hi mx = evSlice E st t x lo hi mx := by
 cases x with
 | dat d => right; unfold evSlice; cases d <;> cases kindT E.P t <;> cases mx <;> rfl
 | sl l o n =>
   cases hf : find st.h l with
   | none =>
     unfold evSlice
     cases kindT E.P t with
     | slice e =>
       cases mx with
       | none =>
         left
         simp only [hf]
         (repeat' split) <;> rfl
       | some m => right; rfl
     | _ => right; rfl
   | some B =>
     right; unfold evSlice
     cases kindT E.P t with
     | slice e =>
       cases mx with
       | none => simp only [hf, hm _ _ hf]
       | some m => rfl
     | _ => rfl
 | _ => right; unfold evSlice; cases kindT E.P t <;> cases mx <;> rfl
omit hm in
theorem evConv_eq {P : Program} {s d : TypeId} {x : D} (he : rdD st' x = rdD st x) : evConv P st' s d x = evConv P st s d x := by
 unfold evConv
 generalize kindT P s = ks
 generalize kindT P d = kd
 cases x with
 | dat v => cases v <;> cases ks <;> cases kd <;> first | rfl | simp [he]
 | _ => cases ks <;> cases kd <;> first | rfl | simp [he]
theorem evConv_mono (s d : TypeId) (x : D) : evConv E.P st s d x = .stop ∨ evConv E.P st' s d x = evConv E.P st s d x := by
 rcases rdD_mono hm x with h | h
 ·cases x with
  | sl l o n =>
    left; unfold evConv
    cases kindT E.P s with
    | slice e => cases kindT E.P d <;> simp [h]
    | _ => cases kindT E.P d <;> rfl
  | dat v => right; exact evConv_eq (by cases v <;> rfl)
  | _ => right; exact evConv_eq rfl
 ·right; exact evConv_eq h
theorem evQ_mono {Φ : Fns} {f : Operand → D} (op : Op) : evQ E Φ f st' op = evQ E Φ f st op ∨ ∀ P, ¬ (evQ E Φ f st op).ok P := by
 cases op with
 | load t x =>
   rcases evLoad_mono (E := E) hm t (f x) with h | h
   ·right; intro P; simp only [evQ, h]; rintro ⟨_, h2⟩; exact h2
   ·left; simp only [evQ, h]
 | convert s d x =>
   rcases evConv_mono (E := E) hm s d (f x) with h | h
   ·cases hk : kindT E.P d with
    | slice e => left; simp only [evQ, evQConv, hk]
    | _ => right; intro P; simp only [evQ, evQConv, hk, h]; exact fun h2 => h2
   ·left; simp only [evQ, evQConv, h]
 | slice t x lo hi mx =>
   rcases evSlice_mono (E := E) hm t (f x) (lo.map f) (hi.map f) (mx.map f) with h | h
   ·right; intro P; simp only [evQ, h]; exact fun h2 => h2
   ·left; simp only [evQ, h]
 | indexAddr t x i =>
   rcases evIndexAddr_mono (E := E) hm t (f x) (f i) with h | h
   ·right; intro P; simp only [evQ, h]; exact fun h2 => h2
   ·left; simp only [evQ, h]
 | call c => left; obtain ⟨callee, args, tys⟩ := c; cases callee <;> rfl
 | _ => left; rfl
end
theorem qCheck_mono {E : Env} {Φ : Fns} {ops : Array Oper} {st st' : St} {tF : Tm} {o : Oper} {t : Nat} (hn : st'.c.n = st.c.n) (hm' : st'.c.m = st.c.m) (hs : st'.s = st.s) (hm : ∀ k B, find st.h k = some B → find st'.h k = some B)
 (h : qCheck E Φ ops st tF o t) : qCheck E Φ ops st' tF o t := by
 have hf : evO E (st'.withT tF) = evO E (st.withT tF) := funext fun x => evO_same fun u _ => rfl
 unfold qCheck at h ⊢
 rw [hf]
 rcases evQ_mono (E := E) hm (Φ := Φ) (f := evO E (st.withT tF)) o.op with e | e
 ·rw [e]; exact h
 ·cases hg : o.guard with
  | none => rw [hg] at h; exact absurd h (e _)
  | some jb =>
    obtain ⟨j, b⟩ := jb
    rw [hg] at h
    simp only at h ⊢
    cases hgt : gtmp ops j with
    | none => rw [hgt] at h; exact h
    | some g =>
      rw [hgt] at h
      simp only at h ⊢
      have key : ∀ (p p' q : Prop) (d : D), (¬ p) → qGuard p q b d → qGuard p' q b d := by
       intro p p' q d hp hq
       unfold qGuard at hq ⊢
       split at hq
       ·exact ⟨fun ec => absurd (hq.1 ec) hp, hq.2⟩
       ·exact hq
       ·exact hq
      exact key _ _ _ _ (e _) h
def stB (st : St) (l : Nat) (B : Blk) (b : Bool) : St := if b then ⟨st.c, st.s, (l, B) :: st.h⟩ else st
theorem stB_c {st : St} {l : Nat} {B : Blk} {b : Bool} : (stB st l B b).c = st.c := by cases b <;> rfl
section
variable {Γ : Ctx} {st : St} {as : List Act} {Φ : Fns} {ρ : Option Nat} {Q : Exit → Act → World → Prop} {ops : Array Oper} {q : Nat} {K : St → Prop}
theorem phase1A (hΦ : Sound Γ.toEnv Φ) (hs : quietOK ops (q + 1) = true) (hQ : ∀ st a β w, Sim Γ st a as β w → K st → Q .normal a w) {tF tG : Tm} {oa : Oper} {l tq : Nat} {ty : TypeId} {zs : List D} {B : Blk}
 (hoa : ops[q]? = some oa) (hop : oa.op = .alloc ty) (hgd : oa.guard = none) (hda : oa.dst = some tq) (htq : tq < st.c.n) (hl : fresh st.h = l) (hz : zeroT Γ.toEnv.P ty = some zs) (hB : B = .cells (D.erases l zs) false)
 (hnm : st.noMark l) (hE1 : frsErase l st.s = st.s) (hE2 : hErase l st.h = st.h) (hno : find st.h l = none) (hT0 : ∀ u, D.erase l (look st.c.t u) = look st.c.t u) (hTF : ∀ u, D.erase l (look tF u) = look tF u)
 (hG : ∀ u, look tG u = if tq = u then .ref l 0 else look tF u)
 (hF : ∀ u, wr ops (q + 1) u = none → look tF u = look st.c.t u)
 (hc : ∀ i o t, i < q → ops[i]? = some o → o.dst = some t → t < st.c.n ∧ qCheck Γ.toEnv Φ ops st tG o t) (hK : goOps Γ.toEnv Φ ops (ops.toList.drop (q + 1)) ((stB st l B true).withT tG) K) :
 ∀ (fuel : Nat) (listed : Array Bool) (t' : Tm) (a : Act) (β : Nat → Pl) (w : World), listed.size = ops.size → unl listed ops.size ≤ fuel → (∀ i, q + 1 ≤ i → i < ops.size → listed.getD i true = false) → Closed ops (fun k => listed.getD k false = true) →
  Sim Γ ((stB st l B (listed.getD q false)).withT t') a as β w → (∀ u, look t' u = lookV ops (q + 1) st.c.t tG listed u) → wpAnyIn (Fw ρ) 0 Γ.P .any ops Q fuel listed a w := by
 have hqn := quietOK_size hs
 have hwq : wr ops (q + 1) tq = some q := by
  obtain ⟨⟨⟨t, hd, hw⟩, _⟩, _⟩ := (quietOK_at hs hoa).2.1 (by omega)
  rw [hda] at hd; injection hd with hd; subst hd; exact hw
 have hGF : ∀ u, wr ops (q + 1) u = none → look tG u = look st.c.t u := fun u hu => by
  rw [hG u, if_neg (by rintro rfl; rw [hwq] at hu; cases hu)]
  exact hF u hu
 have done : ∀ (fuel : Nat) (listed : Array Bool) (t' : Tm) (a : Act) (β : Nat → Pl) (w : World), listed.size = ops.size → unl listed ops.size ≤ fuel → (∀ i, q + 1 ≤ i → i < ops.size → listed.getD i true = false) →
  Sim Γ ((stB st l B (listed.getD q false)).withT t') a as β w → (∀ u, look t' u = lookV ops (q + 1) st.c.t tG listed u) → (∀ i, i < q + 1 → listed.getD i true = true) → wpAnyIn (Fw ρ) 0 Γ.P .any ops Q fuel listed a w := by
  intro fuel listed t' a β w hsz hf hl' S hlook hall
  have hex : ∀ i, i < ops.size → listed.getD i true = decide (i < q + 1) := by
   intro i hi
   by_cases h : i < q + 1
   ·rw [hall i h]; simp [h]
   ·rw [hl' i (by omega) hi]; simp [h]
  have hb : listed.getD q false = true := by rw [getD_tf (by omega) false true]; exact hall q (by omega)
  rw [hb] at S
  obtain ⟨β', S'⟩ := (Ent.temps (t' := tG) fun u => by
   left
   rw [hlook u]
   unfold lookV
   split
   ·rename_i i hi
    have := (wr_dst hi).1
    rw [if_pos (by rw [getD_tf (by omega) false true]; exact hall i this)]
   ·rename_i hi
    exact hGF u hi) Γ a as β w S
  have hcount := unl_exact hqn hex
  exact phase2 hΦ hs hQ fuel (q + 1) listed _ a β' w hsz (Nat.le_refl _) hqn (by omega) hex S' hK
 intro fuel
 induction fuel with
 | zero =>
   intro listed t' a β w hsz hf hl' hcl S hlook
   refine done 0 listed t' a β w hsz hf hl' S hlook fun i hi => ?_
   cases h : listed.getD i true with
   | true => rfl
   | false => have := unl_pos h (show i < ops.size by omega); omega
 | succ fuel ih =>
   intro listed t' a β w hsz hf hl' hcl S hlook
   by_cases hall : ∀ i, i < q + 1 → listed.getD i true = true
   ·exact done (fuel + 1) listed t' a β w hsz hf hl' S hlook hall
   ·have hsome : ∃ i, i < q + 1 ∧ listed.getD i true = false := by
     refine Classical.byContradiction fun hno => hall fun i hi => ?_
     cases h : listed.getD i true with
     | true => rfl
     | false => exact absurd ⟨i, hi, h⟩ hno
    refine ⟨fun hnil => ?_, fun j hj => ?_⟩
    ·exfalso
     obtain ⟨i, ⟨hi, hu⟩, hmin⟩ := exists_min hsome
     have ho := Array.getElem?_eq_getElem (show i < ops.size by omega)
     have : i ∈ Region.ready .any ops listed := by
      refine mem_ready.2 ⟨hu, _, ho, fun e he hb => ?_⟩
      have hlt := (quietOK_at hs ho).1 e he hb
      rw [getD_tf (by omega) false true]
      cases h : listed.getD e.on true with
      | true => rfl
      | false => have := hmin e.on ⟨by omega, h⟩; omega
     rw [hnil] at this
     cases this
    ·obtain ⟨h1, o, ho, h2⟩ := mem_ready.1 hj
     have hjn := (Array.getElem?_eq_some_iff.1 ho).1
     have hjq : j < q + 1 := by
      rcases Nat.lt_or_ge j (q + 1) with h | h
      ·exact h
      ·exfalso
       obtain ⟨i, hi, hu⟩ := hsome
       have := (quietOK_at hs ho).2.2 h _ hcl h2 i (by omega)
       rw [getD_tf (by omega) false true, hu] at this
       cases this
     obtain ⟨⟨⟨t, hd, hw⟩, _⟩, hlooks⟩ := (quietOK_at hs ho).2.1 hjq
     have hset : ∀ k o', ops[k]? = some o' → (listed.setIfInBounds j true).getD k false = true → ∀ e ∈ o'.after, Region.binds .any e = true → (listed.setIfInBounds j true).getD e.on false = true := by
      intro k o' hk hlk e he hb
      have mono : ∀ i, listed.getD i false = true → (listed.setIfInBounds j true).getD i false = true := by
       intro i hi
       by_cases eij : j = i
       ·subst eij; exact getD_set_same (by omega) false
       ·rw [getD_set_ne false eij]; exact hi
      by_cases ejk : j = k
      ·subst ejk
       rw [ho] at hk
       cases hk
       exact mono _ (h2 e he hb)
      ·rw [getD_set_ne false ejk] at hlk
       exact mono _ (hcl k o' hk hlk e he hb)
     have hlk : ∀ (t0 : Tm), (∀ u, look t0 u = look t' u) → ∀ u, look ((t, look tG t) :: t0) u = lookV ops (q + 1) st.c.t tG (listed.setIfInBounds j true) u := by
      intro t0 ht0 u
      simp only [look]
      by_cases e : t = u
      ·subst e
       rw [if_pos rfl]
       unfold lookV
       rw [hw]
       simp only []
       rw [if_pos (getD_set_same (by omega) false)]
      ·rw [if_neg e, ht0 u, hlook u]
       unfold lookV
       split
       ·rename_i i hi
        have hne : j ≠ i := by
         rintro rfl
         have := (wr_dst hi).2
         simp only [gtmp, ho, Option.bind_some, hd, Option.some.injEq] at this
         exact e this
        rw [getD_set_ne false hne]
       ·rfl
     have hcount : unl (listed.setIfInBounds j true) ops.size ≤ fuel := by
      have := unl_set (by omega) h1 hjn
      omega
     by_cases hjeq : j = q
     ·-- the block
      subst hjeq
      rw [hoa] at ho; injection ho with ho; subst ho
      rw [hda] at hd; injection hd with hd; subst hd
      have hbf : listed.getD j false = false := by rw [getD_tf (by omega) false true]; exact h1
      rw [hbf] at S
      have S0 : Sim Γ (st.withT t') a as β w := S
      refine goStep (K := fun s => s = (⟨⟨st.c.n, (tq, .ref l 0) :: Tm.erase l t', st.c.m⟩, st.s, (l, B) :: st.h⟩ : St)) (l := []) hΦ hoa S0 ?_ ?_
      ·unfold goOps
       rw [hgd]
       simp only [hop, ev, hda]
       have hl2 : fresh (st.withT t').h = l := hl
       rw [hl2]
       unfold evAlloc
       rw [hz]
       refine ⟨hnm, htq, ?_⟩
       simp only [goOps, Vm.putO, St.put, Fr.put, St.add, Fr.erase, St.withT, hE1, hE2, hB]
      ·intro s a' β' w' S' hs'
       simp only [goOps] at hs'
       subst hs'
       refine ih (listed.setIfInBounds j true) ((tq, look tG tq) :: Tm.erase l t') a' β' w' (by simp [hsz]) hcount (fun i hi hin => by rw [getD_set_ne true (by omega)]; exact hl' i hi hin) hset ?_ (hlk _ fun u => ?_)
       ·rw [getD_set_same (by omega) false]
        rw [show look tG tq = .ref l 0 by rw [hG tq, if_pos rfl]]
        exact S'
       ·rw [look_erase, hlook u]
        unfold lookV
        split
        ·rename_i i hi
         split
         ·rename_i hli
          by_cases eu : tq = u
          ·exfalso
           subst eu
           rw [hwq] at hi; injection hi with hi; subst hi
           rw [hbf] at hli; cases hli
          ·rw [hG u, if_neg eu]; exact hTF u
         ·exact hT0 u
        ·exact hT0 u
     ·have hjlt : j < q := by omega
      obtain ⟨htn, hck⟩ := hc j o t hjlt ho hd
      have hck' : qCheck Γ.toEnv Φ ops (stB st l B (listed.getD q false)) tG o t := by
       cases listed.getD q false with
       | false => exact hck
       | true =>
         refine qCheck_mono (st := st) rfl rfl rfl (fun k B' hk => ?_) hck
         show find ((l, B) :: st.h) k = some B'
         unfold find
         rw [if_neg (by rintro rfl; rw [hno] at hk; cases hk)]
         exact hk
      refine qStep hΦ ho hd (by rw [stB_c]; exact htn) S (fun u hu => ?_) hck' fun a' β' w' S' => ?_
      ·rw [hlook u]
       unfold lookV
       split
       ·rename_i i hi
        obtain ⟨e, he, e1, e2⟩ := hangs_ok (hlooks u hu i hi)
        rw [if_pos (by rw [← e1]; exact h2 e he e2)]
       ·rename_i hi
        exact (hGF u hi).symm
      ·refine ih (listed.setIfInBounds j true) ((t, look tG t) :: t') a' β' w' (by simp [hsz]) hcount (fun i hi hin => by rw [getD_set_ne true (by omega)]; exact hl' i hi hin) hset ?_ (hlk t' fun u => rfl)
       rw [getD_set_ne false (by omega)]
       exact S'
end
theorem runQ_allA {E : Env} {Φ : Fns} {ops : Array Oper} {q : Nat} {K : St → Prop} (hs : quietOK ops (q + 1) = true) : ∀ (l : List Oper) (i : Nat) (s : St), (ops.toList.take q).drop i = l → runQ E Φ ops l s K →
 ∃ tF : Tm, K (s.withT tF) ∧ (∀ u, (∀ j, i ≤ j → wr ops (q + 1) u ≠ some j) → look tF u = look s.c.t u) ∧ ∀ j o t, i ≤ j → j < q → ops[j]? = some o → o.dst = some t → qCheck E Φ ops s tF o t
 | [], i, s, hl, h => by
   refine ⟨s.c.t, h, fun u _ => rfl, fun j o t hij hjq ho _ => ?_⟩
   have hqn := quietOK_size hs
   have := congrArg List.length hl
   simp at this
   omega
 | o :: l, i, s, hl, h => by
   have hqn := quietOK_size hs
   have hi : i < q := by
    have := congrArg List.length hl
    simp at this
    omega
   have ho : ops[i]? = some o := by
    have := congrArg List.head? hl
    rw [List.head?_drop, List.getElem?_take, if_pos hi] at this
    simpa using this
   have hl' : (ops.toList.take q).drop (i + 1) = l := by
    rw [← List.tail_drop, hl]; rfl
   obtain ⟨⟨⟨t, hd, hw⟩, hgd⟩, hlooks⟩ := (quietOK_at hs ho).2.1 (by omega)
   have hafter := (quietOK_at hs ho).1
   have hbefore : ∀ u ∈ o.looksAt ops, ∀ j, wr ops (q + 1) u = some j → j < i := by
    intro u hu j hj
    obtain ⟨e, he, e1, e2⟩ := hangs_ok (hlooks u hu j hj)
    rw [← e1]; exact hafter e he e2
   -- what is done with a value of t, from a state that looks as s
   have fin : ∀ (s0 : St) (t0 : Tm) (d : D), s0 = s.withT t0 → (∀ u, look s0.c.t u = look s.c.t u) → runQ E Φ ops l (s0.put t d) K → (∀ tF : Tm, (∀ u, (∀ j, i + 1 ≤ j → wr ops (q + 1) u ≠ some j) → u ≠ t → look tF u = look s.c.t u) → look tF t = d → qCheck E Φ ops s tF o t) →
    ∃ tF : Tm, K (s.withT tF) ∧ (∀ u, (∀ j, i ≤ j → wr ops (q + 1) u ≠ some j) → look tF u = look s.c.t u) ∧ ∀ j o t, i ≤ j → j < q → ops[j]? = some o → o.dst = some t → qCheck E Φ ops s tF o t := by
    intro s0 t0 d hs0 hlk hrun hck
    obtain ⟨tF, h1, h2, h3⟩ := runQ_allA hs l (i + 1) (s0.put t d) hl' hrun
    subst hs0
    refine ⟨tF, h1, fun u hu => ?_, fun j o' t' hij hjq ho' hd' => ?_⟩
    ·rw [h2 u fun j hj => hu j (by omega), look_put_ne, hlk u]
     rintro rfl
     exact hu i (Nat.le_refl _) hw
    ·rcases Nat.lt_or_ge i j with hlt | hge
     ·have := h3 j o' t' hlt hjq ho' hd'
      rw [show ((s.withT t0).put t d) = s.withT ((t, d) :: t0) from rfl, qCheck_withT] at this
      exact this
     ·have e : i = j := by omega
      subst e
      rw [ho] at ho'; injection ho' with ho'; subst ho'
      rw [hd] at hd'; injection hd' with hd'; subst hd'
      refine hck tF (fun u hu hne => ?_) ?_
      ·rw [h2 u hu, look_put_ne (Ne.symm hne), hlk u]
      ·rw [h2 t, look_put_eq]
       intro j hj e
       rw [hw] at e; injection e with e; omega
   -- the operands look the same
   have hopd : ∀ (tF : Tm) (s0 : St), (∀ u, look s0.c.t u = look s.c.t u) → (∀ u, (∀ j, i + 1 ≤ j → wr ops (q + 1) u ≠ some j) → u ≠ t → look tF u = look s.c.t u) → ∀ x ∈ o.op.operands, evO E s0 x = evO E (s.withT tF) x := by
    intro tF s0 hlk h x hx
    refine evO_same fun u e => ?_
    subst e
    have hu : u ∈ o.looksAt ops := by
     unfold Oper.looksAt
     exact List.mem_append_left _ (List.mem_filterMap.2 ⟨.tmp u, by simpa using hx, rfl⟩)
    rw [hlk u]
    refine (h u (fun j hj e => ?_) ?_).symm
    ·have := hbefore u hu j e; omega
    ·rintro rfl
     have := hbefore _ hu i hw; omega
   have hrunok : ∀ (s0 : St) (t0 : Tm), s0 = s.withT t0 → (∀ u, look s0.c.t u = look s.c.t u) → ∀ (F : D → Prop), (evQ E Φ (evO E s0) s o.op).run F → ∃ d, F d ∧ ∀ tF : Tm, (∀ u, (∀ j, i + 1 ≤ j → wr ops (q + 1) u ≠ some j) → u ≠ t → look tF u = look s.c.t u) → look tF t = d → (evQ E Φ (evO E (s.withT tF)) s o.op).ok fun d => look tF t = d := by
    intro s0 t0 hs0 hlk F hr
    obtain ⟨d, h1, h2⟩ := QA.run_ok hr
    refine ⟨d, h1, fun tF hF ht => ?_⟩
    rw [← evQ_congr o.op (hopd tF s0 hlk hF)]
    exact QA.ok_mono (fun d' e => ht.trans e) h2
   unfold runQ at h
   rw [hd] at h
   simp only [] at h
   cases hg : o.guard with
   | none =>
     rw [hg] at h
     simp only [] at h
     obtain ⟨d, h1, h2⟩ := hrunok s s.c.t rfl (fun _ => rfl) _ h
     refine fin s s.c.t d rfl (fun _ => rfl) h1 fun tF hF ht => ?_
     unfold qCheck
     rw [hg]
     exact h2 tF hF ht
   | some jb =>
     obtain ⟨j, b⟩ := jb
     rw [hg] at h
     simp only [] at h
     split at h
     ·exact h.elim
     ·rename_i g hgt
      have hgl : ∀ tF : Tm, (∀ u, (∀ j, i + 1 ≤ j → wr ops (q + 1) u ≠ some j) → u ≠ t → look tF u = look s.c.t u) → look tF g = look s.c.t g := by
       intro tF hF
       have hu : g ∈ o.looksAt ops := by
        unfold Oper.looksAt
        refine List.mem_append_right _ ?_
        rw [hg]
        simp only []
        rw [show (ops[j]?).bind (·.dst) = some g from hgt]
        simp
       refine hF g (fun j hj e => ?_) ?_
       ·have := hbefore g hu j e; omega
       ·rintro rfl
        have := hbefore _ hu i hw; omega
      split at h
      ·rename_i c hc
       by_cases hcb : c = b
       ·subst hcb
        obtain ⟨d, h1, h2⟩ := hrunok (s.put g (.dat (.bool c))) _ rfl (fun u => look_put_same hc) _ (h.1 rfl)
        refine fin (s.put g (.dat (.bool c))) _ d rfl (fun u => look_put_same hc) h1 fun tF hF ht => ?_
        unfold qCheck
        rw [hg]
        simp only [hgt, hgl tF hF, hc, qGuard]
        exact ⟨fun _ => h2 tF hF ht, fun e => by cases c <;> cases e⟩
       ·have hcb' : c = !b := by cases c <;> cases b <;> simp_all
        have h1 := h.2 hcb'
        rw [← hcb'] at h1
        refine fin (s.put g (.dat (.bool c))) _ _ rfl (fun u => look_put_same hc) h1 fun tF hF ht => ?_
        unfold qCheck
        rw [hg]
        simp only [hgt, hgl tF hF, hc, qGuard]
        exact ⟨fun e => absurd e hcb, fun _ => ht⟩
      ·rename_i hc
       refine fin s s.c.t _ rfl (fun _ => rfl) h fun tF hF ht => ?_
       unfold qCheck
       rw [hg]
       simp only [hgt, hgl tF hF, hc, qGuard]
       exact ht
      ·exact h.elim
section
variable {E : Env} {Φ : Fns} {ρ : Option Nat} {st : St} {K : Exit → St → Prop}
theorem VC.drawAN {id : Nat} {ops : Array Oper} (hΦ : Sound E Φ) (hm : E.P.follows .mixedOrders = true) (q l tq ty : Nat) {zs : List D} (hs : quietOK ops (q + 1) = true) (hn : dstsOK ops (q + 1) st.c.n = true)
 (ha : ∃ oa, ops[q]? = some oa ∧ oa.op = .alloc ty ∧ oa.guard = none ∧ oa.dst = some tq) (hl : fresh st.h = l) (hz : zeroT E.P ty = some zs) (hnm : st.noMark l) (hno : find st.h l = none)
 (hE0 : Tm.erase l st.c.t = st.c.t) (hE1 : frsErase l st.s = st.s) (hE2 : hErase l st.h = st.h)
 (h : ∀ L : St → Prop, (∀ s, Tm.erase l s.c.t = s.c.t → (∀ K' : St → Prop, (∀ s, K .normal s → K' s) → goL E Φ ((ops.toList.drop q).map (strip ops)) s K') → L s) → runL E Φ ((ops.toList.take q).map (strip ops)) st L) :
 VC E ρ (.region id ops true) st K := fun Γ a as β w hΓ S => by
 subst hΓ
 refine wpIn_region_any hm ?_
 obtain ⟨oa, hoa, hop, hgd, hda⟩ := ha
 have hqn := quietOK_size hs
 have hr := h (fun s => Tm.erase l s.c.t = s.c.t ∧ ∀ K' : St → Prop, (∀ s, K .normal s → K' s) → goL Γ.toEnv Φ ((ops.toList.drop q).map (strip ops)) s K') fun s b a => ⟨b, a⟩
 rw [runL_ok] at hr
 obtain ⟨tF, ⟨hKe, hK⟩, hF, hq⟩ := runQ_allA hs _ 0 st rfl hr
 have htq : tq < st.c.n := by
  have : oa ∈ ops.toList.take (q + 1) := by
   refine List.mem_iff_getElem?.2 ⟨q, ?_⟩
   rw [List.getElem?_take, if_pos (by omega)]
   simpa using hoa
  have := List.all_eq_true.1 hn oa this
  rw [hda] at this
  simpa using this
 have hwq : wr ops (q + 1) tq = some q := by
  obtain ⟨⟨⟨t, hd, hw⟩, _⟩, _⟩ := (quietOK_at hs hoa).2.1 (by omega)
  rw [hda] at hd; injection hd with hd; subst hd; exact hw
 have hT0 : ∀ u, D.erase l (look st.c.t u) = look st.c.t u := fun u => by rw [← look_erase, hE0]
 have hTF : ∀ u, D.erase l (look tF u) = look tF u := fun u => by
  have e : Tm.erase l tF = tF := hKe
  rw [← look_erase, e]
 let tG : Tm := (tq, .ref l 0) :: tF
 have hG : ∀ u, look tG u = if tq = u then .ref l 0 else look tF u := fun u => rfl
 have hlooks : ∀ i o, i < q → ops[i]? = some o → ∀ u ∈ o.looksAt ops, tq ≠ u := by
  rintro i o hi ho u hu rfl
  obtain ⟨e, he, e1, e2⟩ := hangs_ok (((quietOK_at hs ho).2.1 (by omega)).2 tq hu q hwq)
  have := (quietOK_at hs ho).1 e he e2
  omega
 have hck : ∀ i o t, i < q → ops[i]? = some o → o.dst = some t → t < st.c.n ∧ qCheck Γ.toEnv Φ ops st tG o t := by
  intro i o t hi ho ht
  refine ⟨?_, ?_⟩
  ·have : o ∈ ops.toList.take (q + 1) := by
    refine List.mem_iff_getElem?.2 ⟨i, ?_⟩
    rw [List.getElem?_take, if_pos (by omega)]
    simpa using ho
   have := List.all_eq_true.1 hn o this
   rw [ht] at this
   simpa using this
  ·have hc := hq i o t (Nat.zero_le _) hi ho ht
   have hne : tq ≠ t := by
    rintro rfl
    obtain ⟨⟨⟨t2, hd2, hw2⟩, _⟩, _⟩ := (quietOK_at hs ho).2.1 (show i < q + 1 by omega)
    rw [ht] at hd2; injection hd2 with hd2; subst hd2
    rw [hwq] at hw2; injection hw2 with hw2; omega
   have et : look tG t = look tF t := by rw [hG t, if_neg hne]
   have ev : evQ Γ.toEnv Φ (evO Γ.toEnv (st.withT tG)) st o.op = evQ Γ.toEnv Φ (evO Γ.toEnv (st.withT tF)) st o.op := evQ_congr o.op fun x hx => evO_same fun u e => by
    subst e
    have hu : u ∈ o.looksAt ops := by
     unfold Oper.looksAt
     exact List.mem_append_left _ (List.mem_filterMap.2 ⟨.tmp u, by simpa using hx, rfl⟩)
    show look tG u = look tF u
    rw [hG u, if_neg (hlooks i o hi ho u hu)]
   unfold qCheck at hc ⊢
   rw [ev, et]
   cases hg : o.guard with
   | none => rw [hg] at hc; exact hc
   | some jb =>
     obtain ⟨j, b⟩ := jb
     rw [hg] at hc
     simp only at hc ⊢
     cases hgt : gtmp ops j with
     | none => rw [hgt] at hc; exact hc
     | some g =>
       rw [hgt] at hc
       simp only at hc ⊢
       have hu : g ∈ o.looksAt ops := by
        unfold Oper.looksAt
        refine List.mem_append_right _ ?_
        rw [hg]
        simp only []
        rw [show (ops[j]?).bind (·.dst) = some g from hgt]
        simp
       rw [hG g, if_neg (hlooks i o hi ho g hu)]
       exact hc
 refine phase1A (Γ := Γ) (st := st) (as := as) (Q := fun e a w => ∃ st' β', Sim Γ st' a as β' w ∧ K e st') hΦ hs (K := K .normal) (fun st a β w S k => ⟨st, β, S, k⟩) (tF := tF) (tG := tG) hoa hop hgd hda htq hl hz rfl hnm hE1 hE2 hno hT0 hTF hG (fun u hu => hF u fun j _ e => ?_) hck ?_
  ops.size (Array.replicate ops.size false) st.c.t a β w.drew (by simp) (unl_le _ _) (fun i _ hi => by simp [Array.getD_eq_getD_getElem?, hi]) (fun k o _ hk => by simp [Array.getD_eq_getD_getElem?, Array.getElem?_replicate] at hk; split at hk <;> simp at hk) ?_ (fun u => ?_)
 ·rw [hu] at e; cases e
 ·have := hK (K .normal) fun _ k => k
  rw [goL_ok] at this
  have hdrop : ops.toList.drop q = oa :: ops.toList.drop (q + 1) := by
   have hlt : q < ops.toList.length := by rw [Array.length_toList]; omega
   rw [List.drop_eq_getElem_cons hlt]
   congr 1
   have := (Array.getElem?_eq_some_iff.1 hoa).2
   simpa using this
  rw [hdrop] at this
  unfold goOps at this
  rw [hgd] at this
  simp only [hop, Vm.ev, hda] at this
  have hl2 : fresh (st.withT tF).h = l := hl
  rw [hl2] at this
  unfold evAlloc at this
  rw [hz] at this
  obtain ⟨_, _, this⟩ := this
  have e : Tm.erase l tF = tF := hKe
  simp only [Vm.putO, St.put, Fr.put, St.add, Fr.erase, St.withT, hE1, hE2, e] at this
  exact this
 ·rw [show (Array.replicate ops.size false).getD q false = false by simp [Array.getD_eq_getD_getElem?, Array.getElem?_replicate]; split <;> rfl]
  exact S.drew
 ·unfold lookV
  split
  ·rename_i i hi
   have := (wr_dst hi).1
   rw [if_neg (by simp [Array.getD_eq_getD_getElem?, show i < ops.size by omega])]
  ·rfl
theorem VC.drawA1 {id : Nat} {ops : Array Oper} {y : Code} (hΦ : Sound E Φ) (hm : E.P.follows .mixedOrders = true) (q l tq ty : Nat) {zs : List D} (hs : quietOK ops (q + 1) = true) (hn : dstsOK ops (q + 1) st.c.n = true)
 (ha : ∃ oa, ops[q]? = some oa ∧ oa.op = .alloc ty ∧ oa.guard = none ∧ oa.dst = some tq) (hl : fresh st.h = l) (hz : zeroT E.P ty = some zs) (hnm : st.noMark l) (hno : find st.h l = none)
 (hE0 : Tm.erase l st.c.t = st.c.t) (hE1 : frsErase l st.s = st.s) (hE2 : hErase l st.h = st.h) (ts : List Nat)
 (h : ∀ L : St → Prop, (∀ s, Tm.erase l s.c.t = s.c.t → (∀ K' : St → Prop, (∀ s, VC E ρ y (s.keep ts) K → K' s) → goL E Φ ((ops.toList.drop q).map (strip ops)) s K') → L s) → runL E Φ ((ops.toList.take q).map (strip ops)) st L) :
 VC E ρ (.seq (.region id ops true) y) st K :=
 VC.seq (VC.drawAN hΦ hm q l tq ty hs hn ha hl hz hnm hno hE0 hE1 hE2 fun L hL => h L fun s b a => hL s b fun K' hK => a K' fun s hs => hK s (hs.ent (Ent.keep s ts)))
end
end Go.Proofs.YtpajpkbipagjpaaGreatDoor.Vm
namespace Go.Proofs.YtpajpkbipagjpaaGreatDoor.Vm
open Go Go.RowKit
def closedT (P : Program) (S : List TypeId) : Bool := S.all fun t => match P.underlying t with
 | some .bool => true
 | some (.int _) => true
 | some .string => true
 | some (.slice e) => S.contains e && decide (0 < P.cellsOf e)
 | some (.struct fs) => fs.toList.all (fun f => S.contains f.type) && tiledB P (P.cellsOf t) 0 fs.toList
 | some (.array n e) => S.contains e && decide (P.cellsOf t = n * P.cellsOf e)
 | _ => false
where tiledB (P : Program) (total : Nat) : Nat → List Field → Bool
 | k, [] => decide (k = total)
 | k, f :: r => decide (f.offset = k) && tiledB P total (k + P.cellsOf f.type) r
def CT (P : Program) : Nat → TypeId → List Data → Prop
 | 0, _, _ => False
 | n + 1, t, ds => match P.underlying t with
   | some .bool => ∃ b, ds = [.bool b]
   | some (.int k) => ∃ i, ds = [.int k i] ∧ (Lit.int k i).wf = true
   | some .string => ∃ s, ds = [.str s] ∧ s.length ≤ maxLen
   | some (.slice e) => ∃ xs, ds = [.lst xs] ∧ xs.length ≤ maxLen ∧ ∀ x ∈ xs, CT P n e x
   | some (.struct fs) => ds.length = P.cellsOf t ∧ ∀ f ∈ fs.toList, CT P n f.type ((ds.drop f.offset).take (P.cellsOf f.type))
   | some (.array m e) => ds.length = P.cellsOf t ∧ ∀ i, i < m → CT P n e ((ds.drop (i * P.cellsOf e)).take (P.cellsOf e))
   | _ => False
mutual
def bk : Data → Nat
 | .str s => s.length + 1
 | .lst xs => bkE xs + 1
 | .agg cs => bkC cs + 1
 | .bool _ => 1
 | .int _ _ => 1
 | .nilp => 1
 | .ptr _ => 1
 | .fn _ => 1
 | .nilf => 1
 | .iface _ _ => 1
 | .nili => 1
def bkC : List Data → Nat
 | [] => 0
 | d :: r => bk d + bkC r
def bkE : List (List Data) → Nat
 | [] => 0
 | x :: r => bkC x + bkE r
end
theorem bkC_append : ∀ (a b : List Data), bkC (a ++ b) = bkC a + bkC b
 | [], b => by simp [bkC]
 | d :: a, b => by simp only [List.cons_append, bkC, bkC_append a b]; omega
structure Bulk {H : Type} (B : DataW H → Nat) (BA : List (DataW H) → Nat) : Prop where
 lit : ∀ l, 1 ≤ B (.lit l)
 str : ∀ s, s.length + 1 ≤ B (.lit (.string s))
 nil : 1 ≤ B .nil
 slice : ∀ xs ys, BA xs + 1 ≤ B (.slice xs ys)
 agg : ∀ xs, BA xs ≤ B (.agg xs)
 cons : ∀ d r, B d + BA r ≤ BA (d :: r)
theorem RVs.append {w : World} {I : Cset} : ∀ {as : List Data} {us : List Value} {bs : List Data} {vs : List Value}, RVs w I as us → RVs w I bs vs → RVs w I (as ++ bs) (us ++ vs)
 | [], us, bs, vs, h, k => by simp only [RVs] at h; subst h; exact k
 | a :: as, us, bs, vs, h, k => by
   simp only [RVs] at h
   obtain ⟨v, r, rfl, h1, h2⟩ := h
   exact ⟨v, r ++ vs, rfl, h1, RVs.append h2 k⟩
section
variable {H : Type} {enc : TypeId × Value → H} {P : Program} {w : World} {S : List TypeId} {B : DataW H → Nat} {BA : List (DataW H) → Nat}
def Told (P : Program) (w : World) (B : DataW H → Nat) (fuel : Nat) (t : TypeId) (cs : List Value) (d : DataW H) : Prop :=
 ∃ ds, CT P fuel t ds ∧ RVs w (All w) ds cs ∧ (∀ d ∈ ds, d.one = true) ∧ bkC ds ≤ B d
theorem RC_of {I : Cset} {b : Nat} : ∀ {ds : List Data} {cs : List Value} (o : Nat), RVs w I ds cs → (∀ d ∈ ds, d.one = true) → (∀ i, i < cs.length → w.cell? ⟨b, o + i, none⟩ = cs[i]?) → (∀ i, i < cs.length → I b (o + i)) → RC w I ds b o
 | [], cs, o, h, h1, h2, h3 => by simp only [RC]
 | d :: ds, cs, o, h, h1, h2, h3 => by
   simp only [RVs] at h
   obtain ⟨v, r, rfl, hv, hr⟩ := h
   simp only [RC]
   refine ⟨⟨v, by simpa using h2 0 (by simp), by simpa using h3 0 (by simp), h1 d (by simp), hv⟩, RC_of (o + 1) hr (fun d hd => h1 d (by simp [hd])) (fun i hi => ?_) (fun i hi => ?_)⟩
   ·have := h2 (i + 1) (by simp; omega)
    rw [show o + (i + 1) = o + 1 + i by omega] at this
    simpa using this
   ·have := h3 (i + 1) (by simp; omega)
    rwa [show o + (i + 1) = o + 1 + i by omega] at this
theorem cell_lt {b o : Nat} {v : Value} (h : w.cell? ⟨b, o, none⟩ = some v) : b < w.heap.size := by
 rcases Nat.lt_or_ge b w.heap.size with h' | h'
 ·exact h'
 ·simp [World.cell?, Array.getElem?_eq_none h'] at h
theorem spot_none {a : Addr} {v : Value} (h : w.cell? a = some v) : a.spot = none := by
 cases hs : a.spot with
 | none => rfl
 | some s =>
   simp only [World.cell?] at h
   split at h
   ·simp [hs] at h
   ·cases h
theorem told_fields (hB : Bulk B BA) {n : Nat} {cs : List Value} {total : Nat} : ∀ (fs : List Field) (xs : List (DataW H × List MemPlace)) (k : Nat), closedT.tiledB P total k fs = true → xs.length = fs.length → cs.length = total →
 (∀ (i : Nat) (f : Field) (x : DataW H × List MemPlace), fs[i]? = some f → xs[i]? = some x → Told P w B n f.type ((cs.drop f.offset).take (P.cellsOf f.type)) x.1) →
 ∃ ds, ds.length = total - k ∧ k ≤ total ∧ RVs w (All w) ds (cs.drop k) ∧ (∀ d ∈ ds, d.one = true) ∧ bkC ds ≤ BA (xs.map (·.1)) + 0 ∧ ∀ f ∈ fs, k ≤ f.offset ∧ CT P n f.type ((ds.drop (f.offset - k)).take (P.cellsOf f.type))
 | [], xs, k, ht, hx, hc, h => by
   simp only [closedT.tiledB, decide_eq_true_eq] at ht
   subst ht
   refine ⟨[], by simp, Nat.le_refl _, ?_, by simp, by simp [bkC], by simp⟩
   rw [List.drop_eq_nil_of_le (by omega)]
   simp only [RVs]
 | f :: fs, xs, k, ht, hx, hc, h => by
   simp only [closedT.tiledB, Bool.and_eq_true, decide_eq_true_eq] at ht
   cases xs with
   | nil => simp at hx
   | cons x xs =>
     obtain ⟨ho, ht⟩ := ht
     obtain ⟨ds2, e1, e2, e3, e4, e5, e6⟩ := told_fields hB fs xs _ ht (by simpa using hx) hc fun i f' x' hf hx' => h (i + 1) f' x' (by simpa using hf) (by simpa using hx')
     obtain ⟨ds1, c1, c2, c3, c4⟩ := h 0 f x rfl rfl
     rw [ho] at c2
     have hl : ds1.length = P.cellsOf f.type := by
      have := c2.length
      rw [List.length_take, List.length_drop] at this
      omega
     refine ⟨ds1 ++ ds2, by simp; omega, by omega, ?_, ?_, ?_, ?_⟩
     ·have := RVs.append c2 e3
      rw [← List.drop_drop, List.take_append_drop] at this
      exact this
     ·intro d hd
      rcases List.mem_append.1 hd with hd | hd
      ·exact c3 d hd
      ·exact e4 d hd
     ·rw [bkC_append]
      have := hB.cons x.1 (xs.map (·.1))
      simp only [List.map_cons]
      omega
     ·intro g hg
      rcases List.mem_cons.1 hg with rfl | hg
      ·refine ⟨by omega, ?_⟩
       rw [ho, Nat.sub_self, List.drop_zero, ← hl, List.take_left]
       exact c1
      ·obtain ⟨q1, q2⟩ := e6 g hg
       refine ⟨by omega, ?_⟩
       rw [show g.offset - k = ds1.length + (g.offset - (k + P.cellsOf f.type)) by omega, ← List.drop_drop, List.drop_left]
       exact q2
theorem told_rows (hB : Bulk B BA) {n sz : Nat} {e : TypeId} (hsz : P.cellsOf e = sz) {cs : List Value} : ∀ (m : Nat) (xs : List (DataW H × List MemPlace)) (k : Nat), xs.length = m → cs.length = (k + m) * sz →
 (∀ (i : Nat) (x : DataW H × List MemPlace), xs[i]? = some x → Told P w B n e ((cs.drop ((k + i) * sz)).take sz) x.1) →
 ∃ ds, ds.length = m * sz ∧ RVs w (All w) ds (cs.drop (k * sz)) ∧ (∀ d ∈ ds, d.one = true) ∧ bkC ds ≤ BA (xs.map (·.1)) + 0 ∧ ∀ i, i < m → CT P n e ((ds.drop (i * sz)).take sz)
 | 0, xs, k, hx, hc, h => by
   obtain rfl : xs = [] := List.eq_nil_of_length_eq_zero hx
   refine ⟨[], by simp, ?_, by simp, by simp [bkC], by simp⟩
   rw [List.drop_eq_nil_of_le (by simp at hc; omega)]
   simp only [RVs]
 | m + 1, xs, k, hx, hc, h => by
   cases xs with
   | nil => simp at hx
   | cons x xs =>
     obtain ⟨ds2, e1, e3, e4, e5, e6⟩ := told_rows hB hsz m xs (k + 1) (by simpa using hx) (by rw [hc]; congr 1; omega) fun i x' hx' => by
      rw [show k + 1 + i = k + (i + 1) by omega]
      exact h (i + 1) x' (by simpa using hx')
     obtain ⟨ds1, c1, c2, c3, c4⟩ := h 0 x rfl
     rw [Nat.add_zero] at c2
     have hl : ds1.length = sz := by
      have := c2.length
      rw [List.length_take, List.length_drop, hc, ← Nat.sub_mul, show k + (m + 1) - k = m + 1 by omega, Nat.succ_mul] at this
      omega
     refine ⟨ds1 ++ ds2, by rw [List.length_append, e1, hl, Nat.succ_mul]; omega, ?_, ?_, ?_, ?_⟩
     ·have := RVs.append c2 e3
      rw [show (k + 1) * sz = k * sz + sz by rw [Nat.succ_mul], ← List.drop_drop, List.take_append_drop] at this
      exact this
     ·intro d hd
      rcases List.mem_append.1 hd with hd | hd
      ·exact c3 d hd
      ·exact e4 d hd
     ·rw [bkC_append]
      have := hB.cons x.1 (xs.map (·.1))
      simp only [List.map_cons]
      omega
     ·intro i hi
      cases i with
      | zero => rw [Nat.zero_mul, List.drop_zero, ← hl, List.take_left]; exact c1
      | succ i =>
        rw [show (i + 1) * sz = ds1.length + i * sz by rw [Nat.succ_mul]; omega, ← List.drop_drop, List.drop_left]
        exact e6 i (by omega)
theorem trod_told (hB : Bulk B BA) (hS : closedT P S = true) : ∀ (fuel : Nat) (t : TypeId) (cs : List Value) (x : DataW H × List MemPlace), t ∈ S → DataW.trod enc P w 0 (fun _ => true) true fuel t cs = some x → Told P w B fuel t cs x.1
 | 0, t, cs, x, ht, h => by simp [DataW.trod] at h
 | n + 1, t, cs, x, ht, h => by
   have hc := List.all_eq_true.1 hS t ht
   split at hc
   ·rename_i hu
    obtain ⟨b, rfl, rfl⟩ := DataW.trod_bool hu h
    exact ⟨[.bool b], by rw [CT, hu]; exact ⟨b, rfl⟩, by simp [RVs, RV], by simp [Data.one], by simpa [bkC, bk] using hB.lit _⟩
   ·rename_i k hu
    obtain ⟨i, rfl, rfl, hw⟩ := DataW.trod_int hu h
    exact ⟨[.int k i], by rw [CT, hu]; exact ⟨i, rfl, hw⟩, by simp [RVs, RV], by simp [Data.one], by simpa [bkC, bk] using hB.lit _⟩
   ·rename_i hu
    obtain ⟨s, rfl, rfl, hl⟩ := DataW.trod_string hu h
    refine ⟨[.str s.data.toList], by rw [CT, hu]; exact ⟨_, rfl, by simpa using hl⟩, by simp [RVs, RV], by simp [Data.one], ?_⟩
    have := hB.str s.data.toList
    simp only [bkC, bk]; omega
   ·rename_i e hu
    simp only [Bool.and_eq_true, List.contains_iff_mem, decide_eq_true_eq] at hc
    rcases DataW.trod_slice hu h with ⟨rfl, rfl⟩ | ⟨a, len, cap, elems, rest, m, hm, rfl, rfl, hb, hl, hcap, hlen, hel, hsp, hns⟩
    ·refine ⟨[.lst []], by rw [CT, hu]; exact ⟨[], rfl, by simp, by simp⟩, ?_, by simp [Data.one], by simpa [bkC, bk, bkE] using hB.nil⟩
     simp only [RVs]
     exact ⟨_, _, rfl, by simp only [RV]; exact ⟨none, 0, 0, rfl, rfl, Nat.le_refl _, .inl trivial⟩, rfl⟩
    ·obtain rfl : n = m := by omega
     have hsp0 : len ≠ 0 → a.spot = none := by
      intro hne
      have hb1 := hel 0 (by omega)
      rw [List.getElem?_eq_getElem (by omega), Option.bind_eq_some_iff, Nat.zero_mul] at hb1
      obtain ⟨cs', h1, h2⟩ := hb1
      obtain ⟨_, g2, g3⟩ := World.cells?_some h1
      have h0 := g3 0 hc.2
      rw [List.getElem?_eq_getElem (by omega)] at h0
      have := spot_none h0
      simpa [Addr.add] using this
     have key : ∀ (k : Nat) (l : List (DataW H × List MemPlace)), l = elems.drop k → k ≤ len → ∃ xs : List (List Data), xs.length = len - k ∧ (∀ x ∈ xs, CT P n e x) ∧ bkE xs ≤ BA (l.map (·.1)) + 0 ∧
      (xs = [] ∨ RE w (All w) (P.cellsOf e) xs a.block (a.off + k * P.cellsOf e)) := by
      intro k l
      induction l generalizing k with
      | nil =>
        intro hk hkl
        have : elems.length ≤ k := by
         rcases Nat.lt_or_ge k elems.length with h' | h'
         ·have := congrArg List.length hk; simp at this; omega
         ·exact h'
        exact ⟨[], by simp; omega, by simp, by simp [bkE], .inl rfl⟩
      | cons y l ih =>
        intro hk hkl
        have hk' : k < elems.length := by
         have := congrArg List.length hk; simp at this; omega
        have hy : elems[k]? = some y := by
         have := congrArg List.head? hk; simpa using this.symm
        obtain ⟨xs, x1, x2, x3, x4⟩ := ih (k + 1) (by rw [← List.tail_drop, ← hk]; rfl) (by omega)
        have hb1 := hel k (by omega)
        rw [hy, Option.bind_eq_some_iff] at hb1
        obtain ⟨cs', h1, h2⟩ := hb1
        obtain ⟨ds, d1, d2, d3, d4⟩ := trod_told hB hS n e cs' y hc.1 h2
        obtain ⟨_, g2, g3⟩ := World.cells?_some h1
        have hl2 := d2.length
        have ha := hsp0 (by omega)
        have hcell : ∀ i, i < cs'.length → w.cell? ⟨a.block, a.off + k * P.cellsOf e + i, none⟩ = cs'[i]? := by
         intro i hi
         have := g3 i (by omega)
         rw [← this]
         have e1 : a.add (k * P.cellsOf e) = ⟨a.block, a.off + k * P.cellsOf e, none⟩ := by
          unfold Addr.add; split
          ·rename_i h0; rw [h0]; rcases a with ⟨b, o, s⟩; simp_all
          ·rfl
         rw [e1, Addr.add_lit]
        refine ⟨ds :: xs, by simp; omega, ?_, ?_, .inr ?_⟩
        ·intro x hx
         rcases List.mem_cons.1 hx with rfl | hx
         ·exact d1
         ·exact x2 x hx
        ·have := hB.cons y.1 (l.map (·.1))
         simp only [List.map_cons, bkE]; omega
        ·simp only [RE]
         refine ⟨by omega, RC_of _ d2 d3 hcell (fun i hi => ?_), ?_⟩
         ·have := hcell i hi
          rw [List.getElem?_eq_getElem hi] at this
          exact cell_lt this
         ·rcases x4 with rfl | x4
          ·simp only [RE]
          ·rw [show a.off + k * P.cellsOf e + P.cellsOf e = a.off + (k + 1) * P.cellsOf e by rw [Nat.succ_mul]; omega]
           exact x4
     obtain ⟨xs, x1, x2, x3, x4⟩ := key 0 elems (by simp) (Nat.zero_le _)
     refine ⟨[.lst xs], by rw [CT, hu]; exact ⟨xs, rfl, by omega, x2⟩, ?_, by simp [Data.one], ?_⟩
     ·simp only [RVs]
      refine ⟨_, _, rfl, ?_, rfl⟩
      simp only [RV]
      refine ⟨some a, len, cap, rfl, by omega, hl, ?_⟩
      rcases x4 with rfl | x4
      ·exact .inl rfl
      ·by_cases hne : len = 0
       ·exact .inl (List.eq_nil_of_length_eq_zero (by omega))
       have ha := hsp0 hne
       refine .inr ⟨a.block, a.off, P.cellsOf e, ?_, hc.2, by simpa using x4⟩
       rcases a with ⟨b, o, s⟩
       simp_all
     ·have := hB.slice (elems.map (·.1)) (rest.map (·.1))
      simp only [bkC, bk]; omega
   ·rename_i fs hu
    simp only [Bool.and_eq_true, List.all_eq_true, List.contains_iff_mem] at hc
    obtain ⟨xs, m, hm, rfl, hl, hx, hf⟩ := DataW.trod_struct hu h
    obtain rfl : n = m := by omega
    obtain ⟨ds, e1, e2, e3, e4, e5, e6⟩ := told_fields hB (n := n) (w := w) (cs := cs) fs.toList xs 0 hc.2 (by simpa using hx) hl fun i f y hfi hy => by
     have hfi' : fs[i]? = some f := by simpa using hfi
     exact trod_told hB hS n f.type _ y (hc.1 f (List.mem_of_getElem? hfi)) ((hf i f hfi').trans hy)
    refine ⟨ds, ?_, by simpa using e3, e4, ?_⟩
    ·rw [CT, hu]
     exact ⟨by simpa using e1, fun f hf => by simpa using (e6 f hf).2⟩
    ·have := hB.agg (xs.map (·.1))
     simp only []; omega
   ·rename_i m e hu
    simp only [Bool.and_eq_true, List.contains_iff_mem, decide_eq_true_eq] at hc
    obtain ⟨xs, q, hq, rfl, hl, hx, hf⟩ := DataW.trod_array hu h
    obtain rfl : n = q := by omega
    obtain ⟨ds, e1, e3, e4, e5, e6⟩ := told_rows hB (P := P) (n := n) (w := w) (e := e) rfl (cs := cs) m xs 0 hx (by rw [hl, hc.2]; simp) fun i y hy => by
     have hi : i < m := by rw [← hx]; exact (List.getElem?_eq_some_iff.1 hy).1
     rw [Nat.zero_add]
     exact trod_told hB hS n e _ y hc.1 ((hf i hi).trans hy)
    refine ⟨ds, ?_, by simpa using e3, e4, ?_⟩
    ·rw [CT, hu]
     exact ⟨by rw [e1, hc.2], e6⟩
    ·have := hB.agg (xs.map (·.1))
     simp only []; omega
   ·cases hc
end
end Go.Proofs.YtpajpkbipagjpaaGreatDoor.Vm
namespace Go.Proofs.YtpajpkbipagjpaaGreatDoor.Vm
open Go Go.RowKit
structure Sig where
 ty : Type
 enc : ty → Data
 inj : ∀ x y, enc x = enc y → x = y
noncomputable def Sig.dec (s : Sig) (d : Data) : Option s.ty := by
 classical exact if h : ∃ x, s.enc x = d then some (Classical.choose h) else none
theorem Sig.dec_enc (s : Sig) (x : s.ty) : s.dec (s.enc x) = some x := by
 have h : ∃ y, s.enc y = s.enc x := ⟨x, rfl⟩
 unfold Sig.dec
 rw [dif_pos h]
 exact congrArg some (s.inj _ _ (Classical.choose_spec h))
theorem Sig.dec_some {s : Sig} {d : Data} {x : s.ty} (h : s.dec d = some x) : s.enc x = d := by
 unfold Sig.dec at h
 split at h
 ·rename_i h'
  simp only [Option.some.injEq] at h
  rw [← h]; exact Classical.choose_spec h'
 ·cases h
@[reducible] def Fun : List Sig → Type → Type
 | [], β => β
 | s :: ss, β => s.ty → Fun ss β
noncomputable def ap {β : Type} (z : β) : (ss : List Sig) → Fun ss β → List Data → β
 | [], f, ds => match ds with
   | [] => f
   | _ :: _ => z
 | s :: ss, f, ds => match ds with
   | [] => z
   | d :: ds => match s.dec d with
     | some x => ap z ss (f x) ds
     | none => z
noncomputable def apO {β : Type} (z : β) (s : Sig) (ss : List Sig) (f : Fun (s :: ss) β) (o : Option s.ty) (ds : List Data) : β :=
 match o with
 | some x => ap z ss (f x) ds
 | none => z
section
variable {β : Type} {z : β}
theorem ap_nil {f : Fun [] β} : ap z [] f [] = f := rfl
theorem ap_cons {s : Sig} {ss : List Sig} {f : Fun (s :: ss) β} {d : Data} {ds : List Data} : ap z (s :: ss) f (d :: ds) = apO z s ss f (s.dec d) ds := rfl
theorem apO_some {s : Sig} {ss : List Sig} {f : Fun (s :: ss) β} {x : s.ty} {ds : List Data} : apO z s ss f (some x) ds = ap z ss (f x) ds := rfl
theorem ap_short {s : Sig} {ss : List Sig} {f : Fun (s :: ss) β} : ap z (s :: ss) f [] = z := rfl
theorem ap_long {f : Fun [] β} {d : Data} {ds : List Data} : ap z [] f (d :: ds) = z := rfl
theorem apO_none {s : Sig} {ss : List Sig} {f : Fun (s :: ss) β} {ds : List Data} : apO z s ss f none ds = z := rfl
end
noncomputable def PF (ss : List Sig) (pre : Fun ss Prop) (res : Fun ss (List Data)) : PFn := ⟨ap False ss pre, ap [] ss res⟩
noncomputable def OF (ss : List Sig) (pre : Fun ss Prop) (e sz : Nat) (row : Fun ss (List (List Data))) (rest : Fun ss (List Data)) : OFn := ⟨ap False ss pre, e, sz, ap [] ss row, ap [] ss rest⟩
section
variable {ss : List Sig} {pre : Fun ss Prop} {res : Fun ss (List Data)} {e sz : Nat} {row : Fun ss (List (List Data))} {rest : Fun ss (List Data)} {ds : List Data}
theorem PF_pre : (PF ss pre res).pre ds = ap False ss pre ds := rfl
theorem PF_res : (PF ss pre res).res ds = ap [] ss res ds := rfl
theorem OF_pre : (OF ss pre e sz row rest).pre ds = ap False ss pre ds := rfl
theorem OF_row : (OF ss pre e sz row rest).row ds = ap [] ss row ds := rfl
theorem OF_rest : (OF ss pre e sz row rest).rest ds = ap [] ss rest ds := rfl
theorem OF_e : (OF ss pre e sz row rest).e = e := rfl
theorem OF_sz : (OF ss pre e sz row rest).sz = sz := rfl
end
def allS {γ : Type} (G : List Data → γ → Prop) : (ss : List Sig) → Fun ss Prop → Fun ss γ → (List Data → List Data) → Prop
 | [], p, r, k => p → G (k []) r
 | s :: ss, p, r, k => ∀ x : s.ty, allS G ss (p x) (r x) fun l => k (s.enc x :: l)
theorem allS_ok {γ : Type} {z : γ} {G : List Data → γ → Prop} : ∀ (ss : List Sig) (p : Fun ss Prop) (r : Fun ss γ) (k : List Data → List Data), allS G ss p r k → ∀ ds, ap False ss p ds → G (k ds) (ap z ss r ds)
 | [], p, r, k, h, [], hp => by rw [ap_nil] at hp ⊢; exact h hp
 | [], p, r, k, h, d :: ds, hp => by rw [ap_long] at hp; exact hp.elim
 | s :: ss, p, r, k, h, [], hp => by rw [ap_short] at hp; exact hp.elim
 | s :: ss, p, r, k, h, d :: ds, hp => by
   rw [ap_cons] at hp ⊢
   cases hd : s.dec d with
   | none => rw [hd, apO_none] at hp; exact hp.elim
   | some x =>
     rw [hd, apO_some] at hp
     rw [apO_some]
     obtain rfl := Sig.dec_some hd
     exact allS_ok ss (p x) (r x) _ (h x) ds hp
theorem ap_len {ss : List Sig} {p : Fun ss Prop} {ds : List Data} (h : ap False ss p ds) : ds.length = ss.length := by
 induction ss generalizing ds with
 | nil => cases ds with
   | nil => rfl
   | cons => rw [ap_long] at h; exact h.elim
 | cons s ss ih => cases ds with
   | nil => rw [ap_short] at h; exact h.elim
   | cons d ds =>
     rw [ap_cons] at h
     cases hd : s.dec d with
     | none => rw [hd, apO_none] at h; exact h.elim
     | some x => rw [hd, apO_some] at h; simp [ih h]
theorem Pure.of_sig {E : Env} {g : Nat} {ss : List Sig} {pre : Fun ss Prop} {res : Fun ss (List Data)} {fn : Func} {c : Code} {rs : List ResultVar} {n : Nat} (hf : E.P.funcs[g]? = some fn) (hb : fn.body = some c) (hrs : fn.results.toList = rs) (hnt : fn.ntmps = n)
 (hn : ss.length ≤ n) (h : allS (fun ds r => VC E none c (pureSt n ds) (pureK E.P rs r)) ss pre res id) : Pure E g (PF ss pre res) :=
 Pure.of_body hf hb hrs hnt fun ds hp => ⟨by rw [ap_len hp]; exact hn, allS_ok (z := []) ss pre res id h ds hp⟩
def allS2 {γ δ : Type} (G : List Data → γ → δ → Prop) : (ss : List Sig) → Fun ss Prop → Fun ss γ → Fun ss δ → (List Data → List Data) → Prop
 | [], p, r, q, k => p → G (k []) r q
 | s :: ss, p, r, q, k => ∀ x : s.ty, allS2 G ss (p x) (r x) (q x) fun l => k (s.enc x :: l)
theorem allS2_ok {γ δ : Type} {z : γ} {z' : δ} {G : List Data → γ → δ → Prop} : ∀ (ss : List Sig) (p : Fun ss Prop) (r : Fun ss γ) (q : Fun ss δ) (k : List Data → List Data), allS2 G ss p r q k → ∀ ds, ap False ss p ds → G (k ds) (ap z ss r ds) (ap z' ss q ds)
 | [], p, r, q, k, h, [], hp => by rw [ap_nil] at hp ⊢; rw [ap_nil]; exact h hp
 | [], p, r, q, k, h, d :: ds, hp => by rw [ap_long] at hp; exact hp.elim
 | s :: ss, p, r, q, k, h, [], hp => by rw [ap_short] at hp; exact hp.elim
 | s :: ss, p, r, q, k, h, d :: ds, hp => by
   rw [ap_cons] at hp ⊢
   rw [ap_cons]
   cases hd : s.dec d with
   | none => rw [hd, apO_none] at hp; exact hp.elim
   | some x =>
     rw [hd, apO_some] at hp
     rw [apO_some, apO_some]
     obtain rfl := Sig.dec_some hd
     exact allS2_ok ss (p x) (r x) (q x) _ (h x) ds hp
theorem Own.of_sig {E : Env} {g : Nat} {ss : List Sig} {pre : Fun ss Prop} {e sz : Nat} {row : Fun ss (List (List Data))} {rest : Fun ss (List Data)} {fn : Func} {c : Code} {rs : List ResultVar} {n : Nat} (hf : E.P.funcs[g]? = some fn) (hb : fn.body = some c) (hrs : fn.results.toList = rs) (hnt : fn.ntmps = n)
 (hn : ss.length ≤ n) (h : allS2 (fun ds r q => VC E none c (pureSt n ds) (ownK E.P rs e sz r q)) ss pre row rest id) : Own E g (OF ss pre e sz row rest) :=
 Own.of_body hf hb hrs hnt fun ds hp => ⟨by rw [ap_len hp]; exact hn, allS2_ok (z := []) (z' := []) ss pre row rest id h ds hp⟩
@[reducible] def SI (k : IntKind) : Sig := ⟨Int, .int k, fun _ _ h => by injection h⟩
@[reducible] def SB : Sig := ⟨Bool, .bool, fun _ _ h => by injection h⟩
@[reducible] def SS : Sig := ⟨List UInt8, .str, fun _ _ h => by injection h⟩
@[reducible] def SY : Sig := ⟨List UInt8, fun l => .lst (bytesD l), fun _ _ h => by injection h with h; exact bytesD_inj.1 h⟩
@[reducible] def SN : Sig := ⟨List Nat, fun l => .lst (numsD l), fun _ _ h => by injection h with h; exact numsD_inj.1 h⟩
theorem SI_dec {k : IntKind} {n : Int} : (SI k).dec (.int k n) = some n := (SI k).dec_enc n
theorem SB_dec {b : Bool} : SB.dec (.bool b) = some b := SB.dec_enc b
theorem SS_dec {s : List UInt8} : SS.dec (.str s) = some s := SS.dec_enc s
theorem SY_dec {s : List UInt8} : SY.dec (.lst (bytesD s)) = some s := SY.dec_enc s
theorem SY_dec0 : SY.dec (.lst []) = some [] := SY.dec_enc []
theorem SN_dec {s : List Nat} : SN.dec (.lst (numsD s)) = some s := SN.dec_enc s
section
variable {β : Type} {z : β} {ss : List Sig} {ds : List Data}
theorem ap_SI {k : IntKind} {f : Fun (SI k :: ss) β} {n : Int} : ap z (SI k :: ss) f (.int k n :: ds) = ap z ss (f n) ds := by rw [ap_cons, SI_dec, apO_some]
theorem ap_SB {f : Fun (SB :: ss) β} {b : Bool} : ap z (SB :: ss) f (.bool b :: ds) = ap z ss (f b) ds := by rw [ap_cons, SB_dec, apO_some]
theorem ap_SS {f : Fun (SS :: ss) β} {s : List UInt8} : ap z (SS :: ss) f (.str s :: ds) = ap z ss (f s) ds := by rw [ap_cons, SS_dec, apO_some]
theorem ap_SY {f : Fun (SY :: ss) β} {s : List UInt8} : ap z (SY :: ss) f (.lst (bytesD s) :: ds) = ap z ss (f s) ds := by rw [ap_cons, SY_dec, apO_some]
theorem ap_SY0 {f : Fun (SY :: ss) β} : ap z (SY :: ss) f (.lst [] :: ds) = ap z ss (f ([] : List UInt8)) ds := by rw [ap_cons, SY_dec0, apO_some]
theorem ap_SN {f : Fun (SN :: ss) β} {s : List Nat} : ap z (SN :: ss) f (.lst (numsD s) :: ds) = ap z ss (f s) ds := by rw [ap_cons, SN_dec, apO_some]
end
attribute [go_sem] ap_nil ap_SI ap_SB ap_SS ap_SY ap_SY0 ap_SN PF_pre PF_res OF_pre OF_row OF_rest OF_e OF_sz id_eq
end Go.Proofs.YtpajpkbipagjpaaGreatDoor.Vm
namespace Go.Proofs.YtpajpkbipagjpaaGreatDoor.Vm
open Go Go.RowKit Go.IntWalk
attribute [go_sem_proc] Nat.reduceLT Nat.reduceAdd Nat.reduceEqDiff reduceIte Nat.reduceMul Nat.reduceSub reduceCtorEq Int.reduceNe Int.reduceEq Nat.reduceLeDiff Nat.reduceMod Nat.reduceDiv
attribute [go_sem] ne_eq
theorem tmodN {a b : Int} (h : 0 ≤ a) : a.tmod b = a % b := Int.tmod_eq_emod_of_nonneg h
theorem tdivN {a b : Int} (h : 0 ≤ a) : a.tdiv b = a / b := Int.tdiv_eq_ediv_of_nonneg h
structure Hid (q : Prop) : Prop where
 out : q
def Keep (E : Env) (Φ : Fns) (ts : List Nat) (T q p : Prop) : Prop := Sound E Φ → T → Hid q → p
section
variable {E : Env} {Φ : Fns} {ρ : Option Nat} {st st' : St} {K : Exit → St → Prop} {ts : List Nat} {T q p p' : Prop} {f : St → Prop}
theorem VC.seqC {o : Operand} {x y z : Code} (h : VC E ρ (.cond o x y) st (thenK (fun s => VC E ρ z s K) K)) : VC E ρ (.seq (.cond o x y) z) st K := VC.seq h
theorem VC.seqS {x y z : Code} (h : VC E ρ (.seq x y) st (thenK (fun s => VC E ρ z s K) K)) : VC E ρ (.seq (.seq x y) z) st K := VC.seq h
theorem VC.seqB {id : Nat} {x z : Code} (h : VC E ρ (.block id x) st (thenK (fun s => VC E ρ z s K) K)) : VC E ρ (.seq (.block id x) z) st K := VC.seq h
theorem VC.seqL {x z : Code} (h : VC E ρ (.loop x) st (thenK (fun s => VC E ρ z s K) K)) : VC E ρ (.seq (.loop x) z) st K := VC.seq h
theorem VC.seqX {z : Code} (h : VC E ρ .skip st (thenK (fun s => VC E ρ z s K) K)) : VC E ρ (.seq .skip z) st K := VC.seq h
theorem VC.seqP {x z : Code} (h : VC E ρ (.scope x) st (thenK (fun s => VC E ρ z s K) K)) : VC E ρ (.seq (.scope x) z) st K := VC.seq h
theorem VC.seqM {l : Nat} {z : Code} (h : VC E ρ (.label l) st (thenK (fun s => VC E ρ z s K) K)) : VC E ρ (.seq (.label l) z) st K := VC.seq h
theorem VC.atR {c : Code} (hv : VC E ρ c st' K) (h : st = st') : VC E ρ c st K := h ▸ hv
theorem K_atR {e : Exit} (hv : K e st') (h : st = st') : K e st := h ▸ hv
theorem VC.condbR {c : Operand} {x y : Code} {b : Bool} (h1 : b = true → VC E ρ x st K) (h2 : b = false → VC E ρ y st K) (hc : evO E st c = .dat (.bool b)) : VC E ρ (.cond c x y) st K := VC.condb hc h1 h2
theorem VC.condtR {c : Operand} {x y : Code} {b : Bool} (h1 : b = false → VC E ρ x st K) (h2 : b = true → VC E ρ y st K) (hc : evO E st c = .dat (.bool (!b))) : VC E ρ (.cond c x y) st K := VC.condt hc h1 h2
theorem VC.conddR {c : Operand} {x y : Code} {p : Prop} {_ : Decidable p} (h1 : p → VC E ρ x st K) (h2 : ¬ p → VC E ρ y st K) (hc : evO E st c = .dat (.bool (decide p))) : VC E ρ (.cond c x y) st K := VC.condd hc h1 h2
theorem VC.condnR {c : Operand} {x y : Code} {p : Prop} {_ : Decidable p} (h1 : ¬ p → VC E ρ x st K) (h2 : p → VC E ρ y st K) (hc : evO E st c = .dat (.bool (!decide p))) : VC E ρ (.cond c x y) st K := VC.condn hc h1 h2
theorem nx (h : q) (k : q → p := by
 intro h
 repeat first
  | with_reducible refine thenK_n ?_
  | with_reducible refine thenK_e ?_
  | with_reducible refine thenK_r ?_
  | with_reducible refine blockK_n ?_
  | with_reducible refine blockK_r ?_
  | with_reducible refine blockK_e ?_
  | (with_reducible refine blockK_m (by decide) ?_)
  | with_reducible refine scopeK_n ?_
  | with_reducible refine scopeK_e ?_
  | with_reducible refine scopeK_r ?_
  | refine VC.seqC ?_
  | refine VC.seqS ?_
  | refine VC.seqB ?_
  | refine VC.seqL ?_
  | refine VC.seqX ?_
  | refine VC.seqP ?_
  | refine VC.seqM ?_
  | refine VC.block ?_
  | refine VC.exit ?_
  | refine VC.ret ?_
  | refine VC.skip ?_
  | refine VC.label ?_
  | refine VC.scope ?_
 exact h) : p := k h
theorem sd (k : p := by
 first
 | omega
 | (simp only [maxLen]; omega)
 | (simp -implicitDefEqProofs (disch := omega) only [numsD_at, bytesD_at, i64_in, u64_in, tmodN, tdivN, numsD_len, bytesD_len, List.length_cons, List.length_nil, List.length_append, List.length_map, List.length_take, List.length_drop, maxLen]; done)
 | (simp -implicitDefEqProofs (disch := omega) only [numsD_at, bytesD_at, i64_in, u64_in, tmodN, tdivN, numsD_len, bytesD_len, List.length_cons, List.length_nil, List.length_append, List.length_map, List.length_take, List.length_drop, maxLen]; omega)
 | decide
 | (simp only [Bool.not_eq_eq_eq_not, Bool.not_true, Bool.not_false, decide_eq_false_iff_not, decide_eq_true_eq, Decidable.not_not] at *; omega)
 | fail) : p := k
theorem sde (e : T) (k : T → p := by
 intro e
 first
 | (simp -implicitDefEqProofs (disch := omega) only [e, numsD_at, bytesD_at, i64_in, u64_in, tmodN, tdivN, numsD_len, bytesD_len, List.length_cons, List.length_nil, List.length_append, Nat.reduceAdd, Nat.reduceLeDiff, Nat.le_refl, maxLen]; done)
 | (simp -implicitDefEqProofs (disch := omega) only [e, numsD_at, bytesD_at, i64_in, u64_in, tmodN, tdivN, numsD_len, bytesD_len, List.length_cons, List.length_nil, List.length_append, List.length_map, List.length_take, List.length_drop, maxLen]; omega)
 | fail) : p := k e
theorem sdp (e : T) (k : T → p := by
 intro e
 simp -implicitDefEqProofs (disch := omega) only [e, numsD_at, bytesD_at, i64_in, u64_in, tmodN, tdivN]
 simp -implicitDefEqProofs only [go_sem, e]
 repeat' first
  | with_reducible apply And.intro
  | exact sd
  | exact sde e
  | fail
 all_goals fail) : p := k e
theorem Keep.regt {id : Nat} {ops : Array Oper} {y : Code} (h : Hid q → T → ∀ K' : St → Prop, (∀ s, VC E ρ y (s.keep ts) K → K' s) → goL E Φ (ops.toList.map (strip ops)) st K') : Keep E Φ ts T q (VC E ρ (.seq (.region id ops false) y) st K) :=
 fun hΦ e g => VC.regt hΦ ts (h g e)
theorem Keep.regL {id : Nat} {ops : Array Oper} (h : Hid q → T → ∀ K' : St → Prop, (∀ s, K .normal s → K' s) → goL E Φ (ops.toList.map (strip ops)) st K') : Keep E Φ ts T q (VC E ρ (.region id ops false) st K) :=
 fun hΦ e g => VC.regLast hΦ (h g e)
def KeepQ (E : Env) (Φ : Fns) (n : Nat) (ts : List Nat) (T q p : Prop) : Prop := Sound E Φ → T → Hid q → p
theorem KeepQ.draw {id n : Nat} {ops : Array Oper} {y : Code} (hm : E.P.follows .mixedOrders = true) (hs : quietOK ops n = true) (hn : dstsOK ops n st.c.n = true)
 (h : Hid q → T → ∀ L : St → Prop, (∀ s, (∀ K' : St → Prop, (∀ s, VC E ρ y (s.keep ts) K → K' s) → goL E Φ ((ops.toList.drop n).map (strip ops)) s K') → L s) → runL E Φ ((ops.toList.take n).map (strip ops)) st L) :
 KeepQ E Φ n ts T q (VC E ρ (.seq (.region id ops true) y) st K) := fun hΦ e g => VC.draw1 hΦ hm n hs hn ts (h g e)
theorem KeepQ.drawN {id n : Nat} {ops : Array Oper} (hm : E.P.follows .mixedOrders = true) (hs : quietOK ops n = true) (hn : dstsOK ops n st.c.n = true)
 (h : Hid q → T → ∀ L : St → Prop, (∀ s, (∀ K' : St → Prop, (∀ s, K .normal s → K' s) → goL E Φ ((ops.toList.drop n).map (strip ops)) s K') → L s) → runL E Φ ((ops.toList.take n).map (strip ops)) st L) :
 KeepQ E Φ n ts T q (VC E ρ (.region id ops true) st K) := fun hΦ e g => VC.drawN hΦ hm n hs hn (h g e)
theorem rg (hΦ : Sound E Φ) (ts : List Nat) (e : T) {q1 : Prop} (h : q) (k : q1 → p := by exact fun h => nx h) (k2 : Keep E Φ ts T q q1 := by
 apply Keep.regt; intro h e K' hK
 dsimp only [List.append, List.take, List.drop, List.map, strip, stripG]
 try simp only [gtmp, List.getElem?_toArray, List.getElem?_cons_succ, List.getElem?_cons_zero, Option.bind_some]
 simp -implicitDefEqProofs only [go_sem, e]
 repeat' first
  | (refine hK _ ?_; apply VC.atR h.out; (try simp -implicitDefEqProofs only [go_sem, e]); (try simp (disch := omega) only [i64_in, u64_in, tmodN, tdivN]); exact rfl)
  | with_reducible apply And.intro
  | exact sd
  | exact sde e
  | exact sdp e
  | (with_reducible refine goA_id ?_; simp -implicitDefEqProofs (disch := omega) only [numsD_at, bytesD_at, i64_in, u64_in, tmodN, tdivN, e]; simp -implicitDefEqProofs only [go_sem, e])
  | fail) : p := k (k2 hΦ e ⟨h⟩)
theorem rgL (hΦ : Sound E Φ) (e : T) {q1 : Prop} (h : q) (k : q1 → p := by exact fun h => nx h) (k2 : Keep E Φ [] T q q1 := by
 apply Keep.regL; intro h e K' hK
 dsimp only [List.append, List.take, List.drop, List.map, strip, stripG]
 try simp only [gtmp, List.getElem?_toArray, List.getElem?_cons_succ, List.getElem?_cons_zero, Option.bind_some]
 simp -implicitDefEqProofs only [go_sem, e]
 repeat' first
  | (refine hK _ ?_; apply K_atR h.out; (try simp -implicitDefEqProofs only [go_sem, e]); (try simp (disch := omega) only [i64_in, u64_in, tmodN, tdivN]); exact rfl)
  | with_reducible apply And.intro
  | exact sd
  | exact sde e
  | exact sdp e
  | (with_reducible refine goA_id ?_; simp -implicitDefEqProofs (disch := omega) only [numsD_at, bytesD_at, i64_in, u64_in, tmodN, tdivN, e]; simp -implicitDefEqProofs only [go_sem, e])
  | fail) : p := k (k2 hΦ e ⟨h⟩)
theorem rd (hΦ : Sound E Φ) (n : Nat) (ts : List Nat) (e : T) {q1 : Prop} (h : q) (k : q1 → p := by exact fun h => nx h) (k2 : KeepQ E Φ n ts T q q1 := by
 apply KeepQ.draw (by kernel_rfl) (by kernel_rfl) (by kernel_rfl); intro h e L hL
 dsimp only [List.append, List.take, List.drop, List.map, strip, stripG]
 try simp only [gtmp, List.getElem?_toArray, List.getElem?_cons_succ, List.getElem?_cons_zero, Option.bind_some]
 simp -implicitDefEqProofs only [go_sem, e]
 repeat' first
  | (refine hL _ ?_; intro K' hK; dsimp only [List.append, List.drop, List.map, strip, stripG]; simp -implicitDefEqProofs only [go_sem, e])
  | (refine hK _ ?_; apply VC.atR h.out; (try simp -implicitDefEqProofs only [go_sem, e]); (try simp (disch := omega) only [i64_in, u64_in, tmodN, tdivN]); exact rfl)
  | with_reducible apply And.intro
  | exact sd
  | exact sde e
  | exact sdp e
  | ((first | with_reducible refine goA_id ?_ | with_reducible refine runA_id ?_); simp -implicitDefEqProofs (disch := omega) only [numsD_at, bytesD_at, i64_in, u64_in, tmodN, tdivN, e]; simp -implicitDefEqProofs only [go_sem, e])
  | fail) : p := k (k2 hΦ e ⟨h⟩)
theorem rdL (hΦ : Sound E Φ) (n : Nat) (e : T) {q1 : Prop} (h : q) (k : q1 → p := by exact fun h => nx h) (k2 : KeepQ E Φ n [] T q q1 := by
 apply KeepQ.drawN (by kernel_rfl) (by kernel_rfl) (by kernel_rfl); intro h e L hL
 dsimp only [List.append, List.take, List.drop, List.map, strip, stripG]
 try simp only [gtmp, List.getElem?_toArray, List.getElem?_cons_succ, List.getElem?_cons_zero, Option.bind_some]
 simp -implicitDefEqProofs only [go_sem, e]
 repeat' first
  | (refine hL _ ?_; intro K' hK; dsimp only [List.append, List.drop, List.map, strip, stripG]; simp -implicitDefEqProofs only [go_sem, e])
  | (refine hK _ ?_; apply K_atR h.out; (try simp -implicitDefEqProofs only [go_sem, e]); (try simp (disch := omega) only [i64_in, u64_in, tmodN, tdivN]); exact rfl)
  | with_reducible apply And.intro
  | exact sd
  | exact sde e
  | exact sdp e
  | ((first | with_reducible refine goA_id ?_ | with_reducible refine runA_id ?_); simp -implicitDefEqProofs (disch := omega) only [numsD_at, bytesD_at, i64_in, u64_in, tmodN, tdivN, e]; simp -implicitDefEqProofs only [go_sem, e])
  | fail) : p := k (k2 hΦ e ⟨h⟩)
theorem rB {id : Nat} {ops : Array Oper} {y : Code} {Q : (St → Prop) → Prop} (hΦ : Sound E Φ) (ts : List Nat) (e : T) (h : ∀ K' : St → Prop, (∀ s, VC E ρ y (s.keep ts) K → K' s) → Q K') (k : VC E ρ (.seq (.region id ops false) y) st K → p := by exact fun h => nx h)
 (k2 : ∀ K' : St → Prop, T → Q K' → goL E Φ (ops.toList.map (strip ops)) st K' := by
  intro K' e h
  dsimp only [List.append, List.take, List.drop, List.map, strip, stripG]
  try simp only [gtmp, List.getElem?_toArray, List.getElem?_cons_succ, List.getElem?_cons_zero, Option.bind_some]
  simp -implicitDefEqProofs only [go_sem, e]
  exact h) : p := k (VC.regt hΦ ts fun K' hK => k2 K' e (h K' hK))
theorem rdB {id n : Nat} {ops : Array Oper} {y : Code} {Q : (St → Prop) → Prop} (hΦ : Sound E Φ) (ts : List Nat) (e : T)
 (h : ∀ L : St → Prop, (∀ s, (∀ K' : St → Prop, (∀ s, VC E ρ y (s.keep ts) K → K' s) → goL E Φ ((ops.toList.drop n).map (strip ops)) s K') → L s) → Q L) (k : VC E ρ (.seq (.region id ops true) y) st K → p := by exact fun h => nx h)
 (hm : E.P.follows .mixedOrders = true := by kernel_rfl) (hs : quietOK ops n = true := by kernel_rfl) (hn : dstsOK ops n st.c.n = true := by kernel_rfl)
 (k2 : ∀ L : St → Prop, T → Q L → runL E Φ ((ops.toList.take n).map (strip ops)) st L := by
  intro L e h
  dsimp only [List.append, List.take, List.drop, List.map, strip, stripG]
  try simp only [gtmp, List.getElem?_toArray, List.getElem?_cons_succ, List.getElem?_cons_zero, Option.bind_some]
  simp -implicitDefEqProofs only [go_sem, e]
  exact h) : p := k (VC.draw1 hΦ hm n hs hn ts fun L hL => k2 L e (h L hL))
theorem lf {y : Code} {K' : St → Prop} {s : St} (hK : ∀ s, VC E ρ y (s.keep ts) K → K' s) (e : T) (h : q) (k : T → q → VC E ρ y (s.keep ts) K := by
 intro e h
 apply VC.atR h
 simp -implicitDefEqProofs only [go_sem, e]
 try simp (disch := omega) only [i64_in, u64_in, tmodN, tdivN]
 exact rfl) : K' s := hK s (k e h)
theorem lfd {n : Nat} {ops : Array Oper} {y : Code} {L : St → Prop} {s : St} (hL : ∀ s, (∀ K' : St → Prop, (∀ s, VC E ρ y (s.keep ts) K → K' s) → goL E Φ ((ops.toList.drop n).map (strip ops)) s K') → L s) (e : T) (h : q)
 (k : T → Hid q → ∀ K' : St → Prop, (∀ s, VC E ρ y (s.keep ts) K → K' s) → goL E Φ ((ops.toList.drop n).map (strip ops)) s K' := by
  intro e h K' hK
  dsimp only [List.append, List.drop, List.map, strip, stripG]
  try simp only [gtmp, List.getElem?_toArray, List.getElem?_cons_succ, List.getElem?_cons_zero, Option.bind_some]
  simp -implicitDefEqProofs only [go_sem, e]
  repeat' first
   | (refine hK _ ?_; apply VC.atR h.out; (try simp -implicitDefEqProofs only [go_sem, e]); (try simp (disch := omega) only [i64_in, u64_in, tmodN, tdivN]); exact rfl)
   | with_reducible apply And.intro
   | exact sd
   | exact sde e
   | exact sdp e
   | (with_reducible refine goA_id ?_; simp -implicitDefEqProofs (disch := omega) only [numsD_at, bytesD_at, i64_in, u64_in, tmodN, tdivN, e]; simp -implicitDefEqProofs only [go_sem, e])
   | fail) : L s := hL s (k e ⟨h⟩)
theorem stk (e : T) (h : q) (k : T → q → p := by
 intro e h
 first
  | with_reducible refine goA_id ?_
  | with_reducible refine runA_id ?_
 simp -implicitDefEqProofs (disch := omega) only [numsD_at, bytesD_at, i64_in, u64_in, tmodN, tdivN, e]
 simp -implicitDefEqProofs only [go_sem, e]
 exact h) : p := k e h
theorem sA {a b P : Prop} (e : T) (h : P → a) (h' : ¬P → b) (k : T → (P → a) → (¬P → b) → p := by
 intro e h h'
 first
  | refine goB_splitD (fun g => ?_) (fun g => ?_)
  | refine goA_splitD (fun g => ?_) (fun g => ?_)
  | refine runB_splitD (fun g => ?_) (fun g => ?_)
  | refine runA_splitD (fun g => ?_) (fun g => ?_)
 ·simp -implicitDefEqProofs only [go_sem, e]; exact h g
 ·simp -implicitDefEqProofs only [go_sem, e]; exact h' g) : p := k e h h'
theorem sAb {a b : Prop} {c : Bool} (e : T) (h : c = true → a) (h' : c = false → b) (k : T → (c = true → a) → (c = false → b) → p := by
 intro e h h'
 first
  | refine goB_split (fun g => ?_) (fun g => ?_)
  | refine goA_split (fun g => ?_) (fun g => ?_)
  | refine runB_split (fun g => ?_) (fun g => ?_)
  | refine runA_split (fun g => ?_) (fun g => ?_)
 ·simp -implicitDefEqProofs only [go_sem, e]; exact h g
 ·simp -implicitDefEqProofs only [go_sem, e]; exact h' g) : p := k e h h'
theorem cn {a b q1 : Prop} (h : a) (h' : b) (k : q1 → p := by exact fun h => nx h) (k2 : a → b → q1 := by
 intro h h'
 first
  | (apply VC.conddR h h'; simp -implicitDefEqProofs only [go_sem]; with_reducible exact rfl)
  | (apply VC.condnR h h'; simp -implicitDefEqProofs only [go_sem]; with_reducible exact rfl)
  | (apply VC.condtR h h'; simp -implicitDefEqProofs only [go_sem]; with_reducible exact rfl)
  | (apply VC.condbR h h'; simp -implicitDefEqProofs only [go_sem]; exact rfl)
  | (apply VC.condbR h h'; simp -implicitDefEqProofs only [go_sem]; done)
  | fail) : p := k (k2 h h')
theorem fn (e : T) {q1 : Prop} (h : q) (k : q1 → p := by exact fun h => nx h) (k2 : T → q → q1 := by
 intro e h
 simp -implicitDefEqProofs only [go_sem, e]
 exact h) : p := k (k2 e h)
theorem fz (e : T) {q1 : Prop} (k : q1 → p := by exact fun h => nx h) (k2 : T → q1 := by
 intro e
 simp -implicitDefEqProofs only [go_sem, e]
 try simp -implicitDefEqProofs only [go_sem, List.cons.injEq, Data.int.injEq, Data.bool.injEq, Data.agg.injEq, Data.lst.injEq, Data.str.injEq, e]
 repeat' first
  | with_reducible apply And.intro
  | trivial
  | omega
  | rfl
  | (simp_all; done)
  | fail) : p := k (k2 e)
theorem st0 (h : q) (k : q → p := by
 intro h
 apply VC.atR h
 simp -implicitDefEqProofs only [go_sem]
 exact rfl) : p := k h
theorem et {s s' : St} (k : Ent s s' := by
 refine Ent.to rfl rfl rfl ?_ ?_
 ·simp -implicitDefEqProofs only [go_sem]
  try simp (disch := omega) only [i64_in, u64_in, tmodN, tdivN]
  try simp only [D.dat.injEq, Data.int.injEq, Data.lst.injEq, Data.bool.injEq, Data.str.injEq, true_and, and_true, and_self, eq_self]
  try (repeat' first | with_reducible apply And.intro | trivial | omega | rfl)
 ·simp -implicitDefEqProofs only [go_sem]
  try (repeat' first | with_reducible apply And.intro | trivial | omega | rfl)) : Ent s s' := k
theorem ete {s s' : St} (e : T) (k : T → Ent s s' := by
 intro e
 refine Ent.to rfl rfl rfl ?_ ?_
 ·simp -implicitDefEqProofs only [go_sem]
  try simp (disch := omega) only [i64_in, u64_in, tmodN, tdivN, e]
  try simp only [D.dat.injEq, Data.int.injEq, Data.lst.injEq, Data.bool.injEq, Data.str.injEq, true_and, and_true, and_self, eq_self]
  try (repeat' first | with_reducible apply And.intro | trivial | omega | rfl)
 ·simp -implicitDefEqProofs only [go_sem]
  try simp -implicitDefEqProofs (disch := omega) only [go_sem, e]
  try (repeat' first | with_reducible apply And.intro | trivial | omega | rfl)) : Ent s s' := k e
theorem nd {P Q : Prop} (h : P) (k : P → False := by (intro h; first | exact absurd h (by decide) | fail)) : Q := (k h).elim
theorem na {P Q : Prop} (h : P) (k : P → False := by
 intro h
 first
 | exact absurd h (by decide)
 | ((try simp only [Bool.not_eq_eq_eq_not, Bool.not_true, Bool.not_false, decide_eq_false_iff_not, decide_eq_true_eq] at *); first | omega | (have g0 := g rfl; omega) | (simp_all; done) | fail)
 | fail) : Q := (k h).elim
end
end Go.Proofs.YtpajpkbipagjpaaGreatDoor.Vm
namespace Go.Proofs.YtpajpkbipagjpaaGreatDoor.Vm
open Go Go.RowKit Go.IntWalk
section
variable {E : Env} {Φ : Fns} {ρ : Option Nat} {st st' : St} {K : Exit → St → Prop} {ts : List Nat} {T q p p' : Prop} {f : St → Prop}
theorem lfC {n : Nat} {ops : Array Oper} {y : Code} {L : St → Prop} {s : St} {Q : (St → Prop) → Prop} (hL : ∀ s, (∀ K' : St → Prop, (∀ s, VC E ρ y (s.keep ts) K → K' s) → goL E Φ ((ops.toList.drop n).map (strip ops)) s K') → L s) (e : T)
 (h : ∀ K' : St → Prop, (∀ s, VC E ρ y (s.keep ts) K → K' s) → Q K')
 (k : ∀ K' : St → Prop, T → Q K' → goL E Φ ((ops.toList.drop n).map (strip ops)) s K' := by
  intro K' e h
  dsimp only [List.append, List.drop, List.map, strip, stripG]
  try simp only [gtmp, List.getElem?_toArray, List.getElem?_cons_succ, List.getElem?_cons_zero, Option.bind_some]
  simp -implicitDefEqProofs only [go_sem, e]
  exact h) : L s := hL s fun K' hK => k K' e (h K' hK)
theorem oc {g : Nat} {p : OFn} {ds : List D} {st1 : St} {xs : List Data} {dst : Option Nat} {lr : List SO} {K' : St → Prop} (h : Own E g p) (l : Nat) (e : T) (hk : q) (hz : frzs st ds = some (xs, st1) := by (simp -implicitDefEqProofs only [go_sem]; exact rfl))
 (hp : T → p.pre xs := by
  intro e
  simp -implicitDefEqProofs only [go_sem, e]
  repeat' first
   | with_reducible apply And.intro
   | exact sd)
 (hm : st1.noMark l := by (simp -implicitDefEqProofs only [go_sem]; try decide))
 (k : T → q → Rest E Φ dst lr K' (rowD l (p.row xs) (p.rest xs)) (st1.add l (.arr p.e p.sz (p.row xs) 0)) := by
  intro e h
  simp -implicitDefEqProofs only [go_sem, Rest, e]
  exact h) : VCcall E g ds st (Rest E Φ dst lr K') := VCcall.own h l hz (hp e) hm (k e hk)
theorem sAl {a b P P' : Prop} (e : T) (h : P → a) (h' : P' → b) (k : T → (P → a) → (P' → b) → p := by
 intro e h h'
 refine goA_all (fun g => ?_) (fun g => ?_)
 ·simp -implicitDefEqProofs only [go_sem, e]; exact h g
 ·simp -implicitDefEqProofs only [go_sem, e]; exact h' g) : p := k e h h'
end
end Go.Proofs.YtpajpkbipagjpaaGreatDoor.Vm

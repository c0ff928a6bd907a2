/- What functions of the program, of its library and of the document compute: their contracts, and laws about what they compute (X16). No condition. -/
import Derived.Test.YtpajpkbipagjpaaGreatDoorX15
import Derived.Test.YtpajpkbipagjpaaGreatDoorX10
import Derived.Test.YtpajpkbipagjpaaGreatDoorX11
import Derived.Test.YtpajpkbipagjpaaGreatDoorX07
import Derived.Test.YtpajpkbipagjpaaGreatDoorX14
import Derived.Test.YtpajpkbipagjpaaGreatDoorX13
import Derived.Test.YtpajpkbipagjpaaGreatDoorX04
import Derived.Test.YtpajpkbipagjpaaGreatDoorX12
set_option linter.unusedVariables false
set_option linter.unusedSimpArgs false
namespace Go.Proofs.YtpajpkbipagjpaaGreatDoor.Oc
open Go Go.RowKit Go.Proofs.YtpajpkbipagjpaaGreatDoor.Vm Go.Proofs.YtpajpkbipagjpaaGreatDoor.Tr Go.IntWalk
set_option maxRecDepth 100000
set_option maxHeartbeats 4000000
end Go.Proofs.YtpajpkbipagjpaaGreatDoor.Oc
namespace Go.Proofs.YtpajpkbipagjpaaGreatDoor.Oc
open Go Go.RowKit Go.Proofs.YtpajpkbipagjpaaGreatDoor.Vm Go.Proofs.YtpajpkbipagjpaaGreatDoor.Tr Go.IntWalk
set_option maxRecDepth 100000
set_option maxHeartbeats 4000000
theorem eqT : (∀ t : T, (t = t) = True) ∧ decide True = true ∧ (∀ i : Int, (i = i) = True) ∧ (∀ b : Bool, (b = b) = True) := ⟨fun _ => eq_self _, rfl, fun _ => eq_self _, fun _ => eq_self _⟩
end Go.Proofs.YtpajpkbipagjpaaGreatDoor.Oc
namespace Go.Proofs.YtpajpkbipagjpaaGreatDoor.Oc
open Go Go.RowKit Go.Proofs.YtpajpkbipagjpaaGreatDoor.Vm Go.Proofs.YtpajpkbipagjpaaGreatDoor.Tr Go.IntWalk
set_option maxRecDepth 100000
set_option maxHeartbeats 4000000
theorem bytes_set {l : List UInt8} {k : Nat} : ∀ (v : Int), (bytesD l).set k [.int .u8 (IntKind.u8.wrap v)] = bytesD (l.set k (byI v)) := by
 intro v
 rw [wrap8]
 unfold bytesD
 rw [List.map_set]
end Go.Proofs.YtpajpkbipagjpaaGreatDoor.Oc
namespace Go.Proofs.YtpajpkbipagjpaaGreatDoor.Oc
open Go Go.RowKit Go.Proofs.YtpajpkbipagjpaaGreatDoor.Vm Go.Proofs.YtpajpkbipagjpaaGreatDoor.Tr Go.IntWalk
set_option maxRecDepth 100000
set_option maxHeartbeats 4000000
theorem VCcall.frzArg {E : Env} {g : Nat} {d : D} {ds : List D} {x : Vm.Data} {st st' : St} {K : D → St → Prop} (hz : frz st d = some (x, st')) (h : VCcall E g (.dat x :: ds) st' K) : VCcall E g (d :: ds) st K := by
 intro Γ a as' β w args hΓ S hargs
 simp only [RVDs] at hargs
 obtain ⟨v, r, e, h1, h2⟩ := hargs
 obtain ⟨⟨S', Kp⟩, hr⟩ := frz_ok d S h1 hz
 refine h Γ a as' β w args hΓ S' ?_
 simp only [RVDs]
 exact ⟨v, r, e, by simp only [RVD]; exact hr, h2.keeps Kp⟩
def fld {α σ : Type} (f : α → σ → Bool × σ) : List α → σ → Bool × σ
 | [], s => (true, s)
 | x :: r, s => match f x s with
   | (true, s') => fld f r s'
   | (false, s') => (false, s')
theorem fld_append {α σ : Type} {f : α → σ → Bool × σ} : ∀ (a b : List α) (s : σ), fld f (a ++ b) s = (match fld f a s with
 | (true, s') => fld f b s'
 | (false, s') => (false, s'))
 | [], b, s => rfl
 | x :: r, b, s => by
   rw [List.cons_append, fld, fld]
   cases h : f x s with
   | mk c s' => cases c with
     | true => exact fld_append r b s'
     | false => rfl
theorem fld_cut {α σ : Type} {f : α → σ → Bool × σ} {a b : List α} {s s' : σ} (h : fld f a s = (false, s')) : fld f (a ++ b) s = (false, s') := by rw [fld_append, h]
theorem fld_go {α σ : Type} {f : α → σ → Bool × σ} {a b : List α} {s s' : σ} (h : fld f a s = (true, s')) : fld f (a ++ b) s = fld f b s' := by rw [fld_append, h]
def goW {σ : Type} (H HL : σ → List (Nat × Blk)) (c : Fr) (stk : List Fr) (K : D → St → Prop) (r : Bool × σ) : Prop :=
 match r with
 | (true, s) => K (.dat (.bool true)) ⟨c, stk, H s⟩
 | (false, s) => K (.dat (.bool false)) ⟨c, stk, HL s⟩
theorem all_take (t : T) {i : Nat} (h : i < t.kids.length) : t.all = t :: T.alls (t.kids.take i) ++ (t.kids.getD i T.zero).all ++ T.alls (t.kids.drop (i + 1)) := by
 have e : t.kids = t.kids.take (i + 1) ++ t.kids.drop (i + 1) := (List.take_append_drop _ _).symm
 rw [T.all_eq]
 conv => lhs; rw [e, T.alls_append, alls_next h]
 simp
theorem kid_good {P : T → Prop} {t : T} (h : ∀ x ∈ t.all, P x) {i : Nat} (hi : i < t.kids.length) : ∀ x ∈ (t.kids.getD i T.zero).all, P x := fun x hx => h x (by
 rw [all_take t hi]; simp only [List.mem_cons, List.mem_append]; exact .inl (.inr hx))
theorem kid_mem' {t : T} {i : Nat} (hi : i < t.kids.length) : t.kids.getD i T.zero ∈ t.kids := by
 rw [List.getD_eq_getElem?_getD, List.getElem?_eq_getElem hi]; exact List.getElem_mem hi
noncomputable def ΦWK : Fns := tab []
theorem ΦWK_ok : Sound E ΦWK := sound_nil
@[go_sem] theorem ΦWK_r : ΦWK 251 = none := rfl
@[go_sem] theorem ΦWK_c : callable Tryz.prog 251 = true := by kernel_rfl
theorem walk_ok {σ : Type} {l : Nat} {H HL : σ → List (Nat × Blk)} {f : T → σ → Bool × σ} {P : T → Prop}
 (step : ∀ {x : T} {s : σ} {c : Fr} {stk : List Fr} {K : D → St → Prop}, P x → goW H HL c stk K (f x s) → VCyield E l [.dat (.ptr [.int .i64 x.cls, .int .i64 x.tag, .bool x.cons, .lst (bytesD x.bytes), .lst (nodesD x.kids)])] ⟨c, stk, H s⟩ K) :
 ∀ (n : Nat) (t : T), t.sz ≤ n → t.sz ≤ 4611686018427387904 → (∀ x ∈ t.all, P x) → ∀ (c : Fr) (stk : List Fr) (s : σ) (K : D → St → Prop), goW H HL c stk K (fld f t.all s) →
  VCcall E 251 [.dat (.ptr [.int .i64 t.cls, .int .i64 t.tag, .bool t.cons, .lst (bytesD t.bytes), .lst (nodesD t.kids)]), .yld l] ⟨c, stk, H s⟩ K := by
 intro n
 induction n using Nat.strongRecOn with
 | _ n ih =>
 intro t hn hbig hg c stk s K hK0
 have hkl := kids_len t
 refine ec (rs := [.tmp 4]) (n := 28) Tryz.func251 rfl rfl rfl ?_
 refine rg ΦWK_ok [0, 1] trivial ?_
 refine rB ΦWK_ok [0, 1, 9] trivial fun K' hK => ?_
 repeat' first | with_reducible apply And.intro | exact sd | exact sde trivial | exact sdp trivial | refine stk trivial ?_ | fail
 refine step (x := t) (hg t (by rw [T.all_eq]; exact List.mem_cons_self)) ?_
 rcases hf : f t s with ⟨b1, s1⟩
 cases b1
 ·show _
  have hAll : fld f t.all s = (false, s1) := by rw [T.all_eq, fld, hf]
  dsimp only [goW]
  refine rt trivial ?_
  repeat' first | (refine lf hK trivial ?_; clear hK K') | with_reducible apply And.intro | exact sd | exact sde trivial | exact sdp trivial | refine stk trivial ?_ | fail
  all_goals
   refine cn ?_ ?_
   ·intro h; try exact na h
    all_goals
     refine rg ΦWK_ok [4] trivial ?_
     refine nx ?_
     refine rt trivial ?_
     rw [hAll] at hK0
     exact hK0
   ·intro h; try exact na h
    all_goals
     refine rg ΦWK_ok [0, 1, 14, 15] trivial ?_
     refine nx ?_
     refine VC.loop (ι := Nat × σ) (fun i => ⟨⟨28, [(0, .dat (.ptr [.int .i64 t.cls, .int .i64 t.tag, .bool t.cons, .lst (bytesD t.bytes), .lst (nodesD t.kids)])), (1, .yld l), (14, .dat (.int .i64 (t.kids.length : Int))), (15, .dat (.int .i64 (i.1 : Int)))], []⟩, c :: stk, H i.2⟩) (fun i => i.1 ≤ t.kids.length ∧ fld f (T.alls (t.kids.take i.1)) s1 = (true, i.2)) (fun i => t.kids.length - i.1) (0, s1) ⟨Nat.zero_le _, by rw [List.take_zero, T.alls_nil]; rfl⟩ ?_ ?_
     ·refine Ent.into ?_ rfl rfl rfl rfl
      simp -implicitDefEqProofs only [go_sem]; (try simp only [D.dat.injEq, Vm.Data.int.injEq, true_and, and_true, and_self, eq_self]); (try omega); (try ((repeat' apply And.intro) <;> first | omega | rfl))
     rintro ⟨i, s2⟩ hp; dsimp only at hp; obtain ⟨hp1, hp2⟩ := hp
     refine st0 ?_
     refine rg ΦWK_ok [0, 1, 14, 15, 16] trivial ?_
     refine cn ?_ ?_
     ·intro h; try exact na h
      all_goals
       have hi : i < t.kids.length := by omega
       refine rg ΦWK_ok [0, 1, 5, 14, 15] trivial ?_
       have hna := nodesD_at hi
       refine rB ΦWK_ok [0, 1, 14, 15, 26] (nodesD_at hi) fun K' hK => ?_
       repeat' first | with_reducible apply And.intro | exact sd | exact sde (nodesD_at hi) | exact sdp (nodesD_at hi) | refine stk (nodesD_at hi) ?_ | fail
       refine ih (t.kids.getD i T.zero).sz (Nat.lt_of_lt_of_le (T.kid_sz (kid_mem' hi)) hn) (t.kids.getD i T.zero) (Nat.le_refl _) (Nat.le_trans (Nat.le_of_lt (T.kid_sz (kid_mem' hi))) hbig) (kid_good hg hi) _ _ _ _ ?_
       rcases hk : fld f (t.kids.getD i T.zero).all s2 with ⟨b2, s3⟩
       cases b2
       ·show _
        have hAll : fld f t.all s = (false, s3) := by
         rw [all_take t hi, List.cons_append, List.cons_append, fld, hf]
         dsimp only
         rw [List.append_assoc, fld_go hp2, fld_cut hk]
        dsimp only [goW]
        refine rt trivial ?_
        repeat' first | (refine lf hK (nodesD_at hi) ?_; clear hK K') | with_reducible apply And.intro | exact sd | exact sde (nodesD_at hi) | exact sdp (nodesD_at hi) | refine stk (nodesD_at hi) ?_ | fail
        all_goals
         refine cn ?_ ?_
         ·intro h; try exact na h
          all_goals
           refine rg ΦWK_ok [4] trivial ?_
           refine nx ?_
           refine rt trivial ?_
           rw [hAll] at hK0
           exact hK0
         ·intro h; try exact na h
          all_goals
           refine rgL ΦWK_ok trivial ?_
           refine nx ?_
           refine ⟨(i + 1, s3), ⟨by dsimp only; omega, by dsimp only; rw [alls_next hi, fld_go hp2, hk]⟩, Ent.into ?_ rfl rfl rfl rfl, by dsimp only; omega⟩
           simp -implicitDefEqProofs only [go_sem]; (try simp (disch := omega) only [i64_in, tmodn, tdivn]); (try simp only [D.dat.injEq, Vm.Data.int.injEq, true_and, and_true, and_self, eq_self]); (try omega); (try ((repeat' apply And.intro) <;> first | omega | rfl))
       ·show _
        dsimp only [goW]
        refine rt trivial ?_
        repeat' first | (refine lf hK (nodesD_at hi) ?_; clear hK K') | with_reducible apply And.intro | exact sd | exact sde (nodesD_at hi) | exact sdp (nodesD_at hi) | refine stk (nodesD_at hi) ?_ | fail
        all_goals
         refine cn ?_ ?_
         ·intro h; try exact na h
          all_goals
           refine rg ΦWK_ok [4] trivial ?_
           refine nx ?_
           refine rt trivial ?_
           rw [hAll] at hK0
           exact hK0
         ·intro h; try exact na h
          all_goals
           refine rgL ΦWK_ok trivial ?_
           refine nx ?_
           refine ⟨(i + 1, s3), ⟨by dsimp only; omega, by dsimp only; rw [alls_next hi, fld_go hp2, hk]⟩, Ent.into ?_ rfl rfl rfl rfl, by dsimp only; omega⟩
           simp -implicitDefEqProofs only [go_sem]; (try simp (disch := omega) only [i64_in, tmodn, tdivn]); (try simp only [D.dat.injEq, Vm.Data.int.injEq, true_and, and_true, and_self, eq_self]); (try omega); (try ((repeat' apply And.intro) <;> first | omega | rfl))
     ·intro h; try exact na h
      all_goals
       have hAll : fld f t.all s = (true, s2) := by
        have : i = t.kids.length := by omega
        rw [T.all_eq, fld, hf]
        dsimp only
        rw [← hp2, this, List.take_length]
       refine rg ΦWK_ok [4] trivial ?_
       refine nx ?_
       refine rt trivial ?_
       rw [hAll] at hK0
       exact hK0
 ·show _
  dsimp only [goW]
  refine rt trivial ?_
  repeat' first | (refine lf hK trivial ?_; clear hK K') | with_reducible apply And.intro | exact sd | exact sde trivial | exact sdp trivial | refine stk trivial ?_ | fail
  all_goals
   refine cn ?_ ?_
   ·intro h; try exact na h
    all_goals
     refine rg ΦWK_ok [4] trivial ?_
     refine nx ?_
     refine rt trivial ?_
     rw [hAll] at hK0
     exact hK0
   ·intro h; try exact na h
    all_goals
     refine rg ΦWK_ok [0, 1, 14, 15] trivial ?_
     refine nx ?_
     refine VC.loop (ι := Nat × σ) (fun i => ⟨⟨28, [(0, .dat (.ptr [.int .i64 t.cls, .int .i64 t.tag, .bool t.cons, .lst (bytesD t.bytes), .lst (nodesD t.kids)])), (1, .yld l), (14, .dat (.int .i64 (t.kids.length : Int))), (15, .dat (.int .i64 (i.1 : Int)))], []⟩, c :: stk, H i.2⟩) (fun i => i.1 ≤ t.kids.length ∧ fld f (T.alls (t.kids.take i.1)) s1 = (true, i.2)) (fun i => t.kids.length - i.1) (0, s1) ⟨Nat.zero_le _, by rw [List.take_zero, T.alls_nil]; rfl⟩ ?_ ?_
     ·refine Ent.into ?_ rfl rfl rfl rfl
      simp -implicitDefEqProofs only [go_sem]; (try simp only [D.dat.injEq, Vm.Data.int.injEq, true_and, and_true, and_self, eq_self]); (try omega); (try ((repeat' apply And.intro) <;> first | omega | rfl))
     rintro ⟨i, s2⟩ hp; dsimp only at hp; obtain ⟨hp1, hp2⟩ := hp
     refine st0 ?_
     refine rg ΦWK_ok [0, 1, 14, 15, 16] trivial ?_
     refine cn ?_ ?_
     ·intro h; try exact na h
      all_goals
       have hi : i < t.kids.length := by omega
       refine rg ΦWK_ok [0, 1, 5, 14, 15] trivial ?_
       have hna := nodesD_at hi
       refine rB ΦWK_ok [0, 1, 14, 15, 26] (nodesD_at hi) fun K' hK => ?_
       repeat' first | with_reducible apply And.intro | exact sd | exact sde (nodesD_at hi) | exact sdp (nodesD_at hi) | refine stk (nodesD_at hi) ?_ | fail
       refine ih (t.kids.getD i T.zero).sz (Nat.lt_of_lt_of_le (T.kid_sz (kid_mem' hi)) hn) (t.kids.getD i T.zero) (Nat.le_refl _) (Nat.le_trans (Nat.le_of_lt (T.kid_sz (kid_mem' hi))) hbig) (kid_good hg hi) _ _ _ _ ?_
       rcases hk : fld f (t.kids.getD i T.zero).all s2 with ⟨b2, s3⟩
       cases b2
       ·show _
        have hAll : fld f t.all s = (false, s3) := by
         rw [all_take t hi, List.cons_append, List.cons_append, fld, hf]
         dsimp only
         rw [List.append_assoc, fld_go hp2, fld_cut hk]
        dsimp only [goW]
        refine rt trivial ?_
        repeat' first | (refine lf hK (nodesD_at hi) ?_; clear hK K') | with_reducible apply And.intro | exact sd | exact sde (nodesD_at hi) | exact sdp (nodesD_at hi) | refine stk (nodesD_at hi) ?_ | fail
        all_goals
         refine cn ?_ ?_
         ·intro h; try exact na h
          all_goals
           refine rg ΦWK_ok [4] trivial ?_
           refine nx ?_
           refine rt trivial ?_
           rw [hAll] at hK0
           exact hK0
         ·intro h; try exact na h
          all_goals
           refine rgL ΦWK_ok trivial ?_
           refine nx ?_
           refine ⟨(i + 1, s3), ⟨by dsimp only; omega, by dsimp only; rw [alls_next hi, fld_go hp2, hk]⟩, Ent.into ?_ rfl rfl rfl rfl, by dsimp only; omega⟩
           simp -implicitDefEqProofs only [go_sem]; (try simp (disch := omega) only [i64_in, tmodn, tdivn]); (try simp only [D.dat.injEq, Vm.Data.int.injEq, true_and, and_true, and_self, eq_self]); (try omega); (try ((repeat' apply And.intro) <;> first | omega | rfl))
       ·show _
        dsimp only [goW]
        refine rt trivial ?_
        repeat' first | (refine lf hK (nodesD_at hi) ?_; clear hK K') | with_reducible apply And.intro | exact sd | exact sde (nodesD_at hi) | exact sdp (nodesD_at hi) | refine stk (nodesD_at hi) ?_ | fail
        all_goals
         refine cn ?_ ?_
         ·intro h; try exact na h
          all_goals
           refine rg ΦWK_ok [4] trivial ?_
           refine nx ?_
           refine rt trivial ?_
           rw [hAll] at hK0
           exact hK0
         ·intro h; try exact na h
          all_goals
           refine rgL ΦWK_ok trivial ?_
           refine nx ?_
           refine ⟨(i + 1, s3), ⟨by dsimp only; omega, by dsimp only; rw [alls_next hi, fld_go hp2, hk]⟩, Ent.into ?_ rfl rfl rfl rfl, by dsimp only; omega⟩
           simp -implicitDefEqProofs only [go_sem]; (try simp (disch := omega) only [i64_in, tmodn, tdivn]); (try simp only [D.dat.injEq, Vm.Data.int.injEq, true_and, and_true, and_self, eq_self]); (try omega); (try ((repeat' apply And.intro) <;> first | omega | rfl))
     ·intro h; try exact na h
      all_goals
       have hAll : fld f t.all s = (true, s2) := by
        have : i = t.kids.length := by omega
        rw [T.all_eq, fld, hf]
        dsimp only
        rw [← hp2, this, List.take_length]
       refine rg ΦWK_ok [4] trivial ?_
       refine nx ?_
       refine rt trivial ?_
       rw [hAll] at hK0
       exact hK0
end Go.Proofs.YtpajpkbipagjpaaGreatDoor.Oc
namespace Go.Proofs.YtpajpkbipagjpaaGreatDoor.Oc
open Go Go.RowKit Go.Proofs.YtpajpkbipagjpaaGreatDoor.Vm Go.Proofs.YtpajpkbipagjpaaGreatDoor.Tr Go.IntWalk
set_option maxRecDepth 100000
set_option maxHeartbeats 4000000
mutual
def dep : T → Nat
 | .mk _ _ _ _ ks => 1 + deps ks
def deps : List T → Nat
 | [] => 0
 | t :: ts => max (dep t) (deps ts)
end
theorem dep_eq (t : T) : dep t = 1 + deps t.kids := by cases t; rw [dep]; rfl
theorem deps_nil : deps [] = 0 := by rw [deps]
theorem deps_cons (t : T) (l : List T) : deps (t :: l) = max (dep t) (deps l) := by rw [deps]
theorem deps_append : ∀ (a b : List T), deps (a ++ b) = max (deps a) (deps b)
 | [], b => by rw [deps_nil, List.nil_append]; omega
 | t :: a, b => by rw [List.cons_append, deps_cons, deps_cons, deps_append a b]; omega
theorem deps_next {t : T} {i : Nat} (h : i < t.kids.length) : deps (t.kids.take (i + 1)) = max (deps (t.kids.take i)) (dep (t.kids.getD i T.zero)) := by
 rw [List.take_add_one, List.getElem?_eq_getElem h, deps_append, List.getD_eq_getElem?_getD, List.getElem?_eq_getElem h]
 simp only [Option.toList_some, Option.getD_some, deps_cons, deps_nil]
 omega
theorem all_cnt (t : T) : t.all.length = 1 + (T.alls t.kids).length := by rw [T.all_eq, List.length_cons]; omega
theorem alls_cnt {t : T} {i : Nat} (h : i < t.kids.length) : (T.alls (t.kids.take (i + 1))).length = (T.alls (t.kids.take i)).length + (t.kids.getD i T.zero).all.length := by
 rw [alls_next h, List.length_append]
theorem dep_sz (n : Nat) : ∀ t : T, t.sz ≤ n → dep t ≤ t.sz := by
 induction n using Nat.strongRecOn with
 | _ n ih =>
 intro t hn
 have key : ∀ l : List T, T.szs l < n → deps l ≤ T.szs l := by
  intro l
  induction l with
  | nil => intro _; rw [deps_nil]; omega
  | cons x l ihl =>
    intro h
    rw [T.szs_cons] at h ⊢
    have h1 := ih x.sz (by omega) x (Nat.le_refl _)
    have h2 := ihl (by omega)
    rw [deps_cons]; omega
 have hs := T.sz_eq t
 have := key t.kids (by omega)
 rw [dep_eq]; omega
theorem cnt0 (t : T) : (T.alls (t.kids.take 0)).length = 0 ∧ deps (t.kids.take 0) = 0 := by
 rw [List.take_zero, T.alls_nil, deps_nil]; exact ⟨rfl, rfl⟩
theorem cnt1 {t : T} {i : Nat} (h : i = t.kids.length) : (1 + ((T.alls (t.kids.take i)).length : Int)) = (t.all.length : Int) ∧ (1 + (deps (t.kids.take i) : Int)) = (dep t : Int) := by
 rw [h, List.take_length, all_cnt, dep_eq]
 exact ⟨by omega, by omega⟩
@[go_sem] noncomputable def cntF (n : Nat) : PFn := PF [ST] (fun (t : T) => t.sz < n ∧ t.sz ≤ 100000000) (fun (t : T) => [.int .i64 (t.all.length : Int), .int .i64 (dep t : Int)])
noncomputable def ΦCnt (m : Nat) : Fns := tab [(209, cntF m)]
theorem ΦCnt_ok {m : Nat} (h : Pure E 209 (cntF m)) : Sound E (ΦCnt m) := sound_cons (by kernel_rfl) h sound_nil
@[go_sem] theorem ΦCnt_r (m : Nat) : ΦCnt m 209 = some (cntF m) := rfl
theorem cnt_ok (n : Nat) : Pure E 209 (cntF n) := by
 induction n using Nat.strongRecOn with
 | _ n ih =>
 exact Pure.of_sig (rs := [.tmp 2, .tmp 3]) (n := 30) Tryz.func209 rfl rfl rfl (Nat.le_of_ble_eq_true rfl) (by
  intro (t : T) hds
  have hal := T.all_len t
  have hdp := dep_sz _ t (Nat.le_refl _)
  have hkl := kids_len t
  have hac := all_cnt t
  have hde := dep_eq t
  have hΦ := ΦCnt_ok (ih (t.sz) (by omega))
  refine st0 ?_
  refine rg hΦ [1] trE ?_
  refine rg hΦ [1, 2, 3] trE ?_
  refine rg hΦ [2, 3, 9, 10, 11] trE ?_
  refine nx ?_
  refine VC.loopP (ι := Nat) [9, 10] (fun i => [(2, .dat (.int .i64 (1 + ((T.alls (t.kids.take i)).length : Int)))), (3, .dat (.int .i64 (1 + (deps (t.kids.take i) : Int)))), (11, .dat (.int .i64 (i : Int)))]) (fun _ => []) (fun i => i ≤ t.kids.length) (fun i => t.kids.length - i) 0 (by omega) (ete (cnt0 t)) ?_
  rintro i hp; try dsimp only at hp
  refine st0 ?_
  refine rg hΦ [2, 3, 9, 10, 11, 12] trE ?_
  refine cn ?_ ?_
  ·intro h; try exact nd h
   all_goals
    have hi : i < t.kids.length := by omega
    refine rg hΦ [2, 3, 5, 9, 10, 11] (nodesD_at hi) ?_
    have hk := T.kid_sz (kid_mem' hi)
    have hka := T.all_len (t.kids.getD i T.zero)
    have hkd := dep_sz _ (t.kids.getD i T.zero) (Nat.le_refl _)
    refine rg hΦ [2, 3, 6, 7, 9, 10, 11] trE ?_
    have hna := alls_cnt hi
    have hnd := deps_next hi
    have hta := alls_take_len (t := t) (i := i)
    have htb := alls_take_len (t := t) (i := i + 1)
    refine rgL hΦ trE ?_
    refine rgL hΦ trE ?_
    refine nx ?_
    exact ⟨i + 1, by omega, ete (And.intro hna hnd), by omega⟩
  ·intro h; try exact nd h
   all_goals
    have hi : i = t.kids.length := by omega
    have hy := cnt1 (t := t) hi
    refine rg hΦ [2, 3] trE ?_
    first
    | exact fz hy)
@[go_sem] noncomputable def cnt0F : PFn := cntF 100000001
theorem cnt0_ok : Pure E 209 cnt0F := cnt_ok 100000001
end Go.Proofs.YtpajpkbipagjpaaGreatDoor.Oc
namespace Go.Proofs.YtpajpkbipagjpaaGreatDoor.Tr
open Go Go.RowKit Go.Proofs.YtpajpkbipagjpaaGreatDoor.Vm
@[reducible] def SPt : Sig := ⟨T, fun t => .ptr (nodeC t), fun _ _ h => by injection h with h; exact nodeC_inj h⟩
theorem SPt_enc {t : T} : SPt.enc t = .ptr (nodeC t) := rfl
theorem SPt_dec {c g : Int} {b : Bool} {s : List UInt8} {ks : List T} : SPt.dec (.ptr [.int .i64 c, .int .i64 g, .bool b, .lst (bytesD s), .lst (nodesD ks)]) = some (.mk c g b s ks) := by
 have := SPt.dec_enc (T.mk c g b s ks)
 rwa [SPt_enc, nodeC] at this
section
variable {β : Type} {z : β} {ss : List Sig} {ds : List Vm.Data}
theorem ap_SPt {f : Fun (SPt :: ss) β} {c g : Int} {b : Bool} {s : List UInt8} {ks : List T} : ap z (SPt :: ss) f (.ptr [.int .i64 c, .int .i64 g, .bool b, .lst (bytesD s), .lst (nodesD ks)] :: ds) = ap z ss (f (T.mk c g b s ks)) ds := by rw [ap_cons, SPt_dec, apO_some]
end
attribute [go_sem] SPt_enc ap_SPt
end Go.Proofs.YtpajpkbipagjpaaGreatDoor.Tr
namespace Go.Proofs.YtpajpkbipagjpaaGreatDoor.Oc
open Go Go.RowKit Go.Proofs.YtpajpkbipagjpaaGreatDoor.Vm Go.Proofs.YtpajpkbipagjpaaGreatDoor.Tr Go.IntWalk
set_option maxRecDepth 100000
set_option maxHeartbeats 4000000
def oidF : Bool → List UInt8 → Bool
 | b, [] => b
 | b, c :: r => if b = true ∧ c.toNat = 128 then false else oidF (decide (c.toNat < 128)) r
def oidB (b : List UInt8) : Bool := oidF true b && decide (0 < b.length)
def goodN (t : T) : Prop := t.cls = 0 ∧ (t.cons = true ∧ t.bytes = [] ∧ (t.tag = 16 ∨ t.tag = 17) ∨ t.cons = false ∧ t.kids = [] ∧ (t.tag = 5 ∧ t.bytes = [] ∨ t.tag = 6 ∧ oidB t.bytes = true))
theorem oidF_step {b : List UInt8} {i : Nat} {g : Bool} (h : i < b.length) : oidF g (b.drop i) = if g = true ∧ (b.getD i 0).toNat = 128 then false else oidF (decide ((b.getD i 0).toNat < 128)) (b.drop (i + 1)) := by
 rw [List.drop_eq_getElem_cons h, oidF, List.getD_eq_getElem?_getD, List.getElem?_eq_getElem h]; rfl
theorem oid_no {b : List UInt8} {i : Nat} {g : Bool} (h : i < b.length) (hp : oidF g (b.drop i) = oidF true b) (hg : g = true) (hx : ((b.getD i 0).toNat : Int) = 128) : oidB b = false := by
 have : oidF true b = false := by rw [← hp, oidF_step h, if_pos ⟨hg, by omega⟩]
 unfold oidB; rw [this]; rfl
theorem oid_go {b : List UInt8} {i : Nat} {g : Bool} (h : i < b.length) (hp : oidF g (b.drop i) = oidF true b) (hx : ¬ (g = true ∧ ((b.getD i 0).toNat : Int) = 128)) : oidF (decide (((b.getD i 0).toNat : Int) < 128)) (b.drop (i + 1)) = oidF true b := by
 rw [← hp, oidF_step h, if_neg (fun h => hx ⟨h.1, by omega⟩)]
 congr 1
 exact decide_eq_decide.2 (by omega)
theorem oid_end {b : List UInt8} {i : Nat} {g : Bool} (h : b.length ≤ i) (hp : oidF g (b.drop i) = oidF true b) : oidB b = (g && decide (0 < b.length)) := by
 unfold oidB; rw [← hp, List.drop_eq_nil_of_le h]; rfl
@[go_sem] noncomputable def oidcF : PFn := PF [SY] (fun (b : List UInt8) => b.length ≤ 4611686018427387904) (fun (b : List UInt8) => [.bool (oidB b)])
theorem oidc_ok : Pure E 300 oidcF := Pure.of_sig (rs := [.tmp 2]) (n := 26) Tryz.func300 rfl rfl rfl (Nat.le_of_ble_eq_true rfl) (by
 intro (b : List UInt8) hds
 refine st0 ?_
 refine rg sound_nil [0] trivial ?_
 refine rg sound_nil [0, 3] trivial ?_
 refine rg sound_nil [0, 3, 6, 7, 8] trivial ?_
 refine nx ?_
 refine VC.loopP (ι := Bool × Nat) [0, 6, 7] (fun z => [(3, .dat (.bool z.1)), (8, .dat (.int .i64 (z.2 : Int)))]) (fun _ => []) (fun z => z.2 ≤ b.length ∧ oidF z.1 (b.drop z.2) = oidF true b) (fun z => b.length - z.2) (true, 0) (⟨Nat.zero_le _, rfl⟩) (et) ?_
 rintro ⟨g, i⟩ hp; try dsimp only at hp
 refine st0 ?_
 refine rg sound_nil [0, 3, 6, 7, 8, 9] trivial ?_
 refine cn ?_ ?_
 ·intro h; try exact na h
  all_goals
   have hi : i < b.length := by omega
   refine rg sound_nil [0, 3, 5, 6, 7, 8] (bytesD_at hi) ?_
   refine rB sound_nil [0, 5, 6, 7, 8, 16] trivial fun K' hK => ?_
   repeat' first | (refine lf hK trivial ?_; clear hK K') | with_reducible apply And.intro | refine sA trivial (fun _ => ?_) fun _ => ?_ | refine sAb trivial (fun _ => ?_) fun _ => ?_ | refine sAl trivial (fun g => ?_) fun g => ?_ | exact sd | exact sde trivial | exact sdp trivial | refine stk trivial ?_ | fail
   all_goals
    refine cn ?_ ?_
    ·intro h; try exact na h
     all_goals
      have hy : oidB b = false := oid_no hi hp.2 (by simp_all) (by simp_all)
      refine rg sound_nil [2] trivial ?_
      first
      | exact fz hy
    ·intro h; try exact na h
     all_goals
      refine rgL sound_nil trivial ?_
      refine rgL sound_nil trivial ?_
      refine nx ?_
      exact ⟨(decide (((b.getD i 0).toNat : Int) < 128), i + 1), ⟨by dsimp only; omega, oid_go (by omega) hp.2 (by simp_all)⟩, et, by dsimp only; omega⟩
 ·intro h; try exact na h
  all_goals
   have hy : oidB b = (g && decide (0 < b.length)) := oid_end (by omega) hp.2
   refine rB sound_nil [2] trivial fun K' hK => ?_
   repeat' first | (refine lf hK trivial ?_; clear hK K') | with_reducible apply And.intro | refine sA trivial (fun _ => ?_) fun _ => ?_ | refine sAb trivial (fun _ => ?_) fun _ => ?_ | refine sAl trivial (fun g => ?_) fun g => ?_ | exact sd | exact sde trivial | exact sdp trivial | refine stk trivial ?_ | fail
   all_goals
    first
    | exact fz hy)
@[go_sem] noncomputable def nulcF : PFn := PF [SY] (fun (b : List UInt8) => b.length ≤ 4611686018427387904) (fun (b : List UInt8) => [.bool (decide ((b.length : Int) = 0))])
theorem nulc_ok : Pure E 299 nulcF := Pure.of_sig (rs := [.tmp 2]) (n := 6) Tryz.func299 rfl rfl rfl (Nat.le_of_ble_eq_true rfl) (by
 intro (b : List UInt8) hds
 refine st0 ?_
 refine rg sound_nil [0] trivial ?_
 refine rg sound_nil [2] trivial ?_
 exact fz trivial)
noncomputable def ΦGB : Fns := tab [(300, oidcF), (299, nulcF)]
theorem ΦGB_ok : Sound E ΦGB := sound_cons (by kernel_rfl) oidc_ok (sound_cons (by kernel_rfl) nulc_ok (sound_nil))
@[go_sem] theorem ΦGB_r : ΦGB 300 = some oidcF ∧ ΦGB 299 = some nulcF ∧ ΦGB 252 = none := ⟨rfl, rfl, rfl⟩
@[go_sem] theorem ΦGB_c : callable Tryz.prog 252 = true := by kernel_rfl
@[go_sem] noncomputable def brkgF : PFn := PF [SPt] (fun (t : T) => goodN t ∧ t.sz ≤ 100000000) (fun (t : T) => [.int .i64 0])
theorem brkg_ok : Pure E 211 brkgF := Pure.of_sig (rs := [.tmp 2]) (n := 110) Tryz.func211 rfl rfl rfl (Nat.le_of_ble_eq_true rfl) (by
 intro (t : T) hds
 obtain ⟨⟨hc, h⟩, hsz⟩ := hds
 obtain ⟨c, tg, co, by', ks⟩ := t
 have hkl := kids_len (T.mk c tg co by' ks)
 simp only [T.cls_mk, T.tag_mk, T.cons_mk, T.bytes_mk, T.kids_mk] at hc h hkl hsz
 subst hc
 rcases h with ⟨rfl, rfl, rfl | rfl⟩ | ⟨rfl, rfl, ⟨rfl, rfl⟩ | ⟨rfl, h4⟩⟩
 ·refine st0 ?_
  refine rg ΦGB_ok [0] trivial ?_
  refine rB ΦGB_ok [0, 5] trivial fun K' hK => ?_
  repeat' first | (refine lf hK trivial ?_; clear hK K') | with_reducible apply And.intro | refine sA trivial (fun _ => ?_) fun _ => ?_ | refine sAb trivial (fun _ => ?_) fun _ => ?_ | refine sAl trivial (fun g => ?_) fun g => ?_ | exact sd | exact sde trivial | exact sdp trivial | refine stk trivial ?_ | fail
  all_goals
   refine cn ?_ ?_
   ·exact fun h => na h
   intro h
   refine rB ΦGB_ok [0, 32] trivial fun K' hK => ?_
   repeat' first | (refine lf hK trivial ?_; clear hK K') | with_reducible apply And.intro | refine sA trivial (fun _ => ?_) fun _ => ?_ | refine sAb trivial (fun _ => ?_) fun _ => ?_ | refine sAl trivial (fun g => ?_) fun g => ?_ | exact sd | exact sde trivial | exact sdp trivial | refine stk trivial ?_ | fail
   all_goals
    refine cn ?_ ?_
    ·exact fun h => na h
    intro h
    refine rg ΦGB_ok [0, 60] trivial ?_
    refine cn ?_ ?_
    ·exact fun h => na h
    intro h
    refine rB ΦGB_ok [0, 3] trivial fun K' hK => ?_
    repeat' first | (refine lf hK trivial ?_; clear hK K') | with_reducible apply And.intro | refine sA trivial (fun _ => ?_) fun _ => ?_ | refine sAb trivial (fun _ => ?_) fun _ => ?_ | refine sAl trivial (fun g => ?_) fun g => ?_ | exact sd | exact sde trivial | exact sdp trivial | refine stk trivial ?_ | fail
    all_goals
     refine rB ΦGB_ok [0, 3, 4] trivial fun K' hK => ?_
     repeat' first | with_reducible apply And.intro | exact sd | exact sde trivial | exact sdp trivial | refine stk trivial ?_ | fail
     refine ec (rs := [.tmp 2]) (n := 34) Tryz.func252 rfl rfl rfl ?_
     refine rg ΦGB_ok [0] trivial ?_
     refine rg ΦGB_ok [0, 3] trivial ?_
     refine rg ΦGB_ok [3, 4] trivial ?_
     refine rg ΦGB_ok [3, 4, 5] trivial ?_
     refine cn ?_ ?_
     ·exact fun h => na h
     intro h
     refine rg ΦGB_ok [3, 4, 7] trivial ?_
     refine cn ?_ ?_
     ·exact fun h => na h
     intro h
     refine rgL ΦGB_ok trivial ?_
     refine cn ?_ ?_
     ·exact fun h => na h
     intro h
     refine rg ΦGB_ok [3, 4, 10] trivial ?_
     refine cn ?_ ?_
     ·exact fun h => na h
     intro h
     refine rg ΦGB_ok [3, 4, 12] trivial ?_
     refine cn ?_ ?_
     ·exact fun h => na h
     intro h
     refine rg ΦGB_ok [3, 4, 16] trivial ?_
     refine cn ?_ ?_
     ·exact fun h => na h
     intro h
     refine rg ΦGB_ok [3, 4, 18] trivial ?_
     refine cn ?_ ?_
     ·exact fun h => na h
     intro h
     refine rg ΦGB_ok [3, 4, 20] trivial ?_
     refine cn ?_ ?_
     ·exact fun h => na h
     intro h
     refine rg ΦGB_ok [3, 4, 22] trivial ?_
     refine cn ?_ ?_
     ·exact fun h => na h
     intro h
     refine rg ΦGB_ok [3, 4, 26] trivial ?_
     refine cn ?_ ?_
     ·exact fun h => na h
     intro h
     refine rg ΦGB_ok [4, 30] trivial ?_
     refine cn ?_ ?_
     ·exact fun h => na h
     intro h
     refine rg ΦGB_ok [32] trivial ?_
     refine cn ?_ ?_
     ·exact fun h => na h
     intro h
     refine rg ΦGB_ok [2] trivial ?_
     refine nx ?_
     refine rt trivial ?_
     repeat' first | (refine lf hK trivial ?_; clear hK K') | with_reducible apply And.intro | exact sd | exact sde trivial | exact sdp trivial | refine stk trivial ?_ | fail
     all_goals
      refine rB ΦGB_ok [0, 3, 4, 83] trivial fun K' hK => ?_
      repeat' first | (refine lf hK trivial ?_; clear hK K') | with_reducible apply And.intro | refine sA trivial (fun _ => ?_) fun _ => ?_ | refine sAb trivial (fun _ => ?_) fun _ => ?_ | refine sAl trivial (fun g => ?_) fun g => ?_ | exact sd | exact sde trivial | exact sdp trivial | refine stk trivial ?_ | fail
      all_goals
       refine cn ?_ ?_
       ·exact fun h => na h
       intro h
       refine rB ΦGB_ok [98] trivial fun K' hK => ?_
       repeat' first | (refine lf hK trivial ?_; clear hK K') | with_reducible apply And.intro | refine sA trivial (fun _ => ?_) fun _ => ?_ | refine sAb trivial (fun _ => ?_) fun _ => ?_ | refine sAl trivial (fun g => ?_) fun g => ?_ | exact sd | exact sde trivial | exact sdp trivial | refine stk trivial ?_ | fail
       all_goals
        refine cn ?_ ?_
        ·exact fun h => na h
        intro h
        refine rg ΦGB_ok [2] trivial ?_
        first
        | exact fz trivial
 ·refine st0 ?_
  refine rg ΦGB_ok [0] trivial ?_
  refine rB ΦGB_ok [0, 5] trivial fun K' hK => ?_
  repeat' first | (refine lf hK trivial ?_; clear hK K') | with_reducible apply And.intro | refine sA trivial (fun _ => ?_) fun _ => ?_ | refine sAb trivial (fun _ => ?_) fun _ => ?_ | refine sAl trivial (fun g => ?_) fun g => ?_ | exact sd | exact sde trivial | exact sdp trivial | refine stk trivial ?_ | fail
  all_goals
   refine cn ?_ ?_
   ·exact fun h => na h
   intro h
   refine rB ΦGB_ok [0, 32] trivial fun K' hK => ?_
   repeat' first | (refine lf hK trivial ?_; clear hK K') | with_reducible apply And.intro | refine sA trivial (fun _ => ?_) fun _ => ?_ | refine sAb trivial (fun _ => ?_) fun _ => ?_ | refine sAl trivial (fun g => ?_) fun g => ?_ | exact sd | exact sde trivial | exact sdp trivial | refine stk trivial ?_ | fail
   all_goals
    refine cn ?_ ?_
    ·exact fun h => na h
    intro h
    refine rg ΦGB_ok [0, 60] trivial ?_
    refine cn ?_ ?_
    ·exact fun h => na h
    intro h
    refine rB ΦGB_ok [0, 3] trivial fun K' hK => ?_
    repeat' first | (refine lf hK trivial ?_; clear hK K') | with_reducible apply And.intro | refine sA trivial (fun _ => ?_) fun _ => ?_ | refine sAb trivial (fun _ => ?_) fun _ => ?_ | refine sAl trivial (fun g => ?_) fun g => ?_ | exact sd | exact sde trivial | exact sdp trivial | refine stk trivial ?_ | fail
    all_goals
     refine rB ΦGB_ok [0, 3, 4] trivial fun K' hK => ?_
     repeat' first | with_reducible apply And.intro | exact sd | exact sde trivial | exact sdp trivial | refine stk trivial ?_ | fail
     refine ec (rs := [.tmp 2]) (n := 34) Tryz.func252 rfl rfl rfl ?_
     refine rg ΦGB_ok [0] trivial ?_
     refine rg ΦGB_ok [0, 3] trivial ?_
     refine rg ΦGB_ok [3, 4] trivial ?_
     refine rg ΦGB_ok [3, 4, 5] trivial ?_
     refine cn ?_ ?_
     ·exact fun h => na h
     intro h
     refine rg ΦGB_ok [3, 4, 7] trivial ?_
     refine cn ?_ ?_
     ·exact fun h => na h
     intro h
     refine rgL ΦGB_ok trivial ?_
     refine cn ?_ ?_
     ·exact fun h => na h
     intro h
     refine rg ΦGB_ok [3, 4, 10] trivial ?_
     refine cn ?_ ?_
     ·exact fun h => na h
     intro h
     refine rg ΦGB_ok [3, 4, 12] trivial ?_
     refine cn ?_ ?_
     ·exact fun h => na h
     intro h
     refine rg ΦGB_ok [3, 4, 16] trivial ?_
     refine cn ?_ ?_
     ·exact fun h => na h
     intro h
     refine rg ΦGB_ok [3, 4, 18] trivial ?_
     refine cn ?_ ?_
     ·exact fun h => na h
     intro h
     refine rg ΦGB_ok [3, 4, 20] trivial ?_
     refine cn ?_ ?_
     ·exact fun h => na h
     intro h
     refine rg ΦGB_ok [3, 4, 22] trivial ?_
     refine cn ?_ ?_
     ·exact fun h => na h
     intro h
     refine rg ΦGB_ok [3, 4, 26] trivial ?_
     refine cn ?_ ?_
     ·exact fun h => na h
     intro h
     refine rg ΦGB_ok [4, 30] trivial ?_
     refine cn ?_ ?_
     ·exact fun h => na h
     intro h
     refine rg ΦGB_ok [32] trivial ?_
     refine cn ?_ ?_
     ·exact fun h => na h
     intro h
     refine rg ΦGB_ok [2] trivial ?_
     refine nx ?_
     refine rt trivial ?_
     repeat' first | (refine lf hK trivial ?_; clear hK K') | with_reducible apply And.intro | exact sd | exact sde trivial | exact sdp trivial | refine stk trivial ?_ | fail
     all_goals
      refine rB ΦGB_ok [0, 3, 4, 83] trivial fun K' hK => ?_
      repeat' first | (refine lf hK trivial ?_; clear hK K') | with_reducible apply And.intro | refine sA trivial (fun _ => ?_) fun _ => ?_ | refine sAb trivial (fun _ => ?_) fun _ => ?_ | refine sAl trivial (fun g => ?_) fun g => ?_ | exact sd | exact sde trivial | exact sdp trivial | refine stk trivial ?_ | fail
      all_goals
       refine cn ?_ ?_
       ·exact fun h => na h
       intro h
       refine rB ΦGB_ok [98] trivial fun K' hK => ?_
       repeat' first | (refine lf hK trivial ?_; clear hK K') | with_reducible apply And.intro | refine sA trivial (fun _ => ?_) fun _ => ?_ | refine sAb trivial (fun _ => ?_) fun _ => ?_ | refine sAl trivial (fun g => ?_) fun g => ?_ | exact sd | exact sde trivial | exact sdp trivial | refine stk trivial ?_ | fail
       all_goals
        refine cn ?_ ?_
        ·exact fun h => na h
        intro h
        refine rg ΦGB_ok [2] trivial ?_
        first
        | exact fz trivial
 ·refine st0 ?_
  refine rg ΦGB_ok [0] trivial ?_
  refine rB ΦGB_ok [0, 5] trivial fun K' hK => ?_
  repeat' first | (refine lf hK trivial ?_; clear hK K') | with_reducible apply And.intro | refine sA trivial (fun _ => ?_) fun _ => ?_ | refine sAb trivial (fun _ => ?_) fun _ => ?_ | refine sAl trivial (fun g => ?_) fun g => ?_ | exact sd | exact sde trivial | exact sdp trivial | refine stk trivial ?_ | fail
  all_goals
   refine cn ?_ ?_
   ·exact fun h => na h
   intro h
   refine rB ΦGB_ok [0, 32] trivial fun K' hK => ?_
   repeat' first | (refine lf hK trivial ?_; clear hK K') | with_reducible apply And.intro | refine sA trivial (fun _ => ?_) fun _ => ?_ | refine sAb trivial (fun _ => ?_) fun _ => ?_ | refine sAl trivial (fun g => ?_) fun g => ?_ | exact sd | exact sde trivial | exact sdp trivial | refine stk trivial ?_ | fail
   all_goals
    refine cn ?_ ?_
    ·exact fun h => na h
    intro h
    refine rg ΦGB_ok [0, 60] trivial ?_
    refine cn ?_ ?_
    ·exact fun h => na h
    intro h
    refine rB ΦGB_ok [0, 3] trivial fun K' hK => ?_
    repeat' first | (refine lf hK trivial ?_; clear hK K') | with_reducible apply And.intro | refine sA trivial (fun _ => ?_) fun _ => ?_ | refine sAb trivial (fun _ => ?_) fun _ => ?_ | refine sAl trivial (fun g => ?_) fun g => ?_ | exact sd | exact sde trivial | exact sdp trivial | refine stk trivial ?_ | fail
    all_goals
     refine rB ΦGB_ok [0, 3, 4] trivial fun K' hK => ?_
     repeat' first | with_reducible apply And.intro | exact sd | exact sde trivial | exact sdp trivial | refine stk trivial ?_ | fail
     refine ec (rs := [.tmp 2]) (n := 34) Tryz.func252 rfl rfl rfl ?_
     refine rg ΦGB_ok [0] trivial ?_
     refine rg ΦGB_ok [0, 3] trivial ?_
     refine rg ΦGB_ok [3, 4] trivial ?_
     refine rg ΦGB_ok [3, 4, 5] trivial ?_
     refine cn ?_ ?_
     ·exact fun h => na h
     intro h
     refine rg ΦGB_ok [3, 4, 7] trivial ?_
     refine cn ?_ ?_
     ·exact fun h => na h
     intro h
     refine rgL ΦGB_ok trivial ?_
     refine cn ?_ ?_
     ·exact fun h => na h
     intro h
     refine rg ΦGB_ok [3, 4, 10] trivial ?_
     refine cn ?_ ?_
     ·exact fun h => na h
     intro h
     refine rg ΦGB_ok [3, 4, 12] trivial ?_
     refine cn ?_ ?_
     ·exact fun h => na h
     intro h
     refine rg ΦGB_ok [3, 4, 16] trivial ?_
     refine cn ?_ ?_
     ·intro h; try exact na h
      all_goals
       refine rg ΦGB_ok [2] trivial ?_
       refine nx ?_
       refine rt trivial ?_
       repeat' first | (refine lf hK trivial ?_; clear hK K') | with_reducible apply And.intro | exact sd | exact sde trivial | exact sdp trivial | refine stk trivial ?_ | fail
       all_goals
        refine rB ΦGB_ok [0, 3, 4, 83] trivial fun K' hK => ?_
        repeat' first | (refine lf hK trivial ?_; clear hK K') | with_reducible apply And.intro | refine sA trivial (fun _ => ?_) fun _ => ?_ | refine sAb trivial (fun _ => ?_) fun _ => ?_ | refine sAl trivial (fun g => ?_) fun g => ?_ | exact sd | exact sde trivial | exact sdp trivial | refine stk trivial ?_ | fail
        all_goals
         refine cn ?_ ?_
         ·exact fun h => na h
         intro h
         refine rB ΦGB_ok [98] trivial fun K' hK => ?_
         repeat' first | (refine lf hK trivial ?_; clear hK K') | with_reducible apply And.intro | refine sA trivial (fun _ => ?_) fun _ => ?_ | refine sAb trivial (fun _ => ?_) fun _ => ?_ | refine sAl trivial (fun g => ?_) fun g => ?_ | exact sd | exact sde trivial | exact sdp trivial | refine stk trivial ?_ | fail
         all_goals
          refine cn ?_ ?_
          ·exact fun h => na h
          intro h
          refine rg ΦGB_ok [2] trivial ?_
          first
          | exact fz trivial
     ·exact fun h => na h
 ·refine st0 ?_
  refine rg ΦGB_ok [0] h4 ?_
  refine rB ΦGB_ok [0, 5] h4 fun K' hK => ?_
  repeat' first | (refine lf hK h4 ?_; clear hK K') | with_reducible apply And.intro | refine sA h4 (fun _ => ?_) fun _ => ?_ | refine sAb h4 (fun _ => ?_) fun _ => ?_ | refine sAl h4 (fun g => ?_) fun g => ?_ | exact sd | exact sde h4 | exact sdp h4 | refine stk h4 ?_ | fail
  all_goals
   refine cn ?_ ?_
   ·exact fun h => na h
   intro h
   refine rB ΦGB_ok [0, 32] h4 fun K' hK => ?_
   repeat' first | (refine lf hK h4 ?_; clear hK K') | with_reducible apply And.intro | refine sA h4 (fun _ => ?_) fun _ => ?_ | refine sAb h4 (fun _ => ?_) fun _ => ?_ | refine sAl h4 (fun g => ?_) fun g => ?_ | exact sd | exact sde h4 | exact sdp h4 | refine stk h4 ?_ | fail
   all_goals
    refine cn ?_ ?_
    ·exact fun h => na h
    intro h
    refine rg ΦGB_ok [0, 60] h4 ?_
    refine cn ?_ ?_
    ·exact fun h => na h
    intro h
    refine rB ΦGB_ok [0, 3] h4 fun K' hK => ?_
    repeat' first | (refine lf hK h4 ?_; clear hK K') | with_reducible apply And.intro | refine sA h4 (fun _ => ?_) fun _ => ?_ | refine sAb h4 (fun _ => ?_) fun _ => ?_ | refine sAl h4 (fun g => ?_) fun g => ?_ | exact sd | exact sde h4 | exact sdp h4 | refine stk h4 ?_ | fail
    all_goals
     refine rB ΦGB_ok [0, 3, 4] h4 fun K' hK => ?_
     repeat' first | with_reducible apply And.intro | exact sd | exact sde h4 | exact sdp h4 | refine stk h4 ?_ | fail
     refine ec (rs := [.tmp 2]) (n := 34) Tryz.func252 rfl rfl rfl ?_
     refine rg ΦGB_ok [0] trivial ?_
     refine rg ΦGB_ok [0, 3] trivial ?_
     refine rg ΦGB_ok [3, 4] trivial ?_
     refine rg ΦGB_ok [3, 4, 5] trivial ?_
     refine cn ?_ ?_
     ·exact fun h => na h
     intro h
     refine rg ΦGB_ok [3, 4, 7] trivial ?_
     refine cn ?_ ?_
     ·exact fun h => na h
     intro h
     refine rgL ΦGB_ok trivial ?_
     refine cn ?_ ?_
     ·exact fun h => na h
     intro h
     refine rg ΦGB_ok [3, 4, 10] trivial ?_
     refine cn ?_ ?_
     ·exact fun h => na h
     intro h
     refine rg ΦGB_ok [3, 4, 12] trivial ?_
     refine cn ?_ ?_
     ·exact fun h => na h
     intro h
     refine rg ΦGB_ok [3, 4, 16] trivial ?_
     refine cn ?_ ?_
     ·exact fun h => na h
     intro h
     refine rg ΦGB_ok [3, 4, 18] trivial ?_
     refine cn ?_ ?_
     ·intro h; try exact na h
      all_goals
       refine rg ΦGB_ok [2] trivial ?_
       refine nx ?_
       refine rt h4 ?_
       repeat' first | (refine lf hK h4 ?_; clear hK K') | with_reducible apply And.intro | exact sd | exact sde h4 | exact sdp h4 | refine stk h4 ?_ | fail
       all_goals
        refine rB ΦGB_ok [0, 3, 4, 83] h4 fun K' hK => ?_
        repeat' first | (refine lf hK h4 ?_; clear hK K') | with_reducible apply And.intro | refine sA h4 (fun _ => ?_) fun _ => ?_ | refine sAb h4 (fun _ => ?_) fun _ => ?_ | refine sAl h4 (fun g => ?_) fun g => ?_ | exact sd | exact sde h4 | exact sdp h4 | refine stk h4 ?_ | fail
        all_goals
         refine cn ?_ ?_
         ·exact fun h => na h
         intro h
         refine rB ΦGB_ok [98] h4 fun K' hK => ?_
         repeat' first | (refine lf hK h4 ?_; clear hK K') | with_reducible apply And.intro | refine sA h4 (fun _ => ?_) fun _ => ?_ | refine sAb h4 (fun _ => ?_) fun _ => ?_ | refine sAl h4 (fun g => ?_) fun g => ?_ | exact sd | exact sde h4 | exact sdp h4 | refine stk h4 ?_ | fail
         all_goals
          refine cn ?_ ?_
          ·exact fun h => na h
          intro h
          refine rg ΦGB_ok [2] h4 ?_
          first
          | exact fz trivial
     ·exact fun h => na h)
end Go.Proofs.YtpajpkbipagjpaaGreatDoor.Oc
namespace Go.Proofs.YtpajpkbipagjpaaGreatDoor.Oc
open Go Go.RowKit Go.Proofs.YtpajpkbipagjpaaGreatDoor.Vm Go.Proofs.YtpajpkbipagjpaaGreatDoor.Tr Go.IntWalk
set_option maxRecDepth 100000
set_option maxHeartbeats 4000000
theorem all_sz (t : T) : ∀ x ∈ t.all, x.sz ≤ t.sz := by
 refine T.all_induct (P := fun t => ∀ x ∈ t.all, x.sz ≤ t.sz) (fun t ih x hx => ?_) t
 rw [T.all_eq, List.mem_cons] at hx
 rcases hx with rfl | hx
 ·exact Nat.le_refl _
 ·have key : ∀ l : List T, (∀ k ∈ l, k ∈ t.kids) → x ∈ T.alls l → x.sz ≤ t.sz := by
   intro l
   induction l with
   | nil => intro _ h; rw [T.alls_nil] at h; cases h
   | cons k l ihl =>
     intro hl h
     rw [T.alls_cons, List.mem_append] at h
     rcases h with h | h
     ·exact Nat.le_trans (ih k (hl k (by simp)) x h) (Nat.le_of_lt (T.kid_sz (hl k (by simp))))
     ·exact ihl (fun k hk => hl k (by simp [hk])) h
  exact key t.kids (fun _ h => h) hx
def goodT (t : T) : Prop := (∀ x ∈ t.all, goodN x) ∧ dep t ≤ 24 ∧ t.all.length ≤ 4000 ∧ t.sz ≤ 90000
theorem fld_true {α σ : Type} {g : σ → σ} : ∀ (l : List α) (k : σ), ∃ k', fld (fun (_ : α) (k : σ) => (true, g k)) l k = (true, k')
 | [], k => ⟨k, rfl⟩
 | x :: r, k => fld_true r (g k)
noncomputable def ΦWG : Fns := tab [(209, cnt0F), (211, brkgF)]
theorem ΦWG_ok : Sound E ΦWG := sound_cons (by kernel_rfl) cnt0_ok (sound_cons (by kernel_rfl) brkg_ok (sound_nil))
@[go_sem] theorem ΦWG_r : ΦWG 209 = some cnt0F ∧ ΦWG 211 = some brkgF ∧ ΦWG 210 = none ∧ ΦWG 251 = none := ⟨rfl, rfl, rfl, rfl⟩
@[go_sem] theorem ΦWG_c : callable Tryz.prog 210 = true ∧ callable Tryz.prog 251 = true := ⟨by kernel_rfl, by kernel_rfl⟩
@[go_sem] noncomputable def wronggF : PFn := PF [ST] (fun (t : T) => goodT t) (fun (t : T) => [.int .i64 0, .int .i64 (-1)])
theorem wrongg_ok : Pure E 158 wronggF := Pure.of_sig (rs := [.cell 2 3, .tmp 3]) (n := 31) Tryz.func158 rfl rfl rfl (Nat.le_of_ble_eq_true rfl) (by
 intro (t : T) hds
 obtain ⟨hg, hd, hn, hsz⟩ := hds
 refine st0 ?_
 refine rg ΦWG_ok [1, 2, 7] trivial ?_
 refine rg ΦWG_ok [1, 2, 4, 5, 7] trivial ?_
 refine rg ΦWG_ok [1, 2, 4, 7, 13] trivial ?_
 refine cn ?_ ?_
 ·exact fun h => na h
 intro h
 refine rg ΦWG_ok [1, 2, 7, 16] trivial ?_
 refine cn ?_ ?_
 ·exact fun h => na h
 intro h
 refine rg ΦWG_ok [1, 2, 6, 7] trivial ?_
 refine rB ΦWG_ok [2, 6, 7, 19] trivial fun K' hK => ?_
 repeat' first | with_reducible apply And.intro | exact sd | exact sde trivial | exact sdp trivial | refine stk trivial ?_ | fail
 refine ec (rs := [.tmp 2]) (n := 4) Tryz.func210 rfl rfl rfl ?_
 refine rg ΦWG_ok [1] trivial ?_
 refine rg ΦWG_ok [2] trivial ?_
 refine nx ?_
 refine rt trivial ?_
 repeat' first | (refine lf hK trivial ?_; clear hK K') | with_reducible apply And.intro | exact sd | exact sde trivial | exact sdp trivial | refine stk trivial ?_ | fail
 all_goals
  refine nx ?_
  refine re (rs := []) (n := 6) 20 21 Tryz.func250 rfl rfl rfl fun A B hA hB => ?_
  refine rBL ΦWG_ok  trivial fun K' hK => ?_
  repeat' first | with_reducible apply And.intro | exact sd | exact sde trivial | exact sdp trivial | refine stk trivial ?_ | fail
  refine VCcall.frzArg (x := _) (st' := _) (by (simp -implicitDefEqProofs only [go_sem]; exact rfl)) ?_
  refine walk_ok (l := 21) (H := fun (k : Int) => [(21, .loop [(2, .ref 2 0), (6, .ref 3 0), (7, .junk), (19, .fn (.func 250) [] [.ref 4 0])] 31 [20] A B .ready none), (20, .defer), (4, .cells [.ref 1 0] false), (3, .cells [.dat (.int .i64 k)] false), (2, .cells [.dat (.int .i64 0)] false), (1, .cells [.dat (.int .i64 t.cls), .dat (.int .i64 t.tag), .dat (.bool t.cons), .dat (.lst (bytesD t.bytes)), .dat (.lst (nodesD t.kids))] true)]) (HL := fun (k : Int) => [(21, .loop [(2, .ref 2 0), (6, .ref 3 0), (7, .junk), (19, .fn (.func 250) [] [.ref 4 0])] 31 [20] A B .ready none), (20, .defer), (4, .cells [.ref 1 0] false), (3, .cells [.dat (.int .i64 k)] false), (2, .cells [.dat (.int .i64 0)] false), (1, .cells [.dat (.int .i64 t.cls), .dat (.int .i64 t.tag), .dat (.bool t.cons), .dat (.lst (bytesD t.bytes)), .dat (.lst (nodesD t.kids))] true)]) (f := fun _ k => (true, IntKind.i64.wrap (k + 1))) (P := fun x => goodN x ∧ x.sz ≤ 100000000) ?_ t.sz t (Nat.le_refl _) (by omega) (fun x hx => ⟨hg x hx, Nat.le_trans (all_sz t x hx) (by omega)⟩) _ _ 0 _ ?_
  ·intro x k c stk K hP hK
   refine yd hA ?_
   refine rgL ΦWG_ok trivial ?_
   refine nx ?_
   refine yb hB ?_
   have hP2 := hP.2
   refine rg ΦWG_ok [2, 6] (eq_true hP.1) ?_
   refine rg ΦWG_ok [6, 24] trivial ?_
   refine cn ?_ ?_
   ·exact fun h => na h
   intro h
   refine rgL ΦWG_ok trivial ?_
   refine nx ?_
   refine rt trivial ?_
   exact hK
  obtain ⟨k1, hk1⟩ := fld_true (g := fun k => IntKind.i64.wrap (k + 1)) t.all 0
  rw [hk1]
  dsimp only [goW]
  refine rt trivial ?_
  repeat' first | (refine lfL hK trivial ?_; clear hK K') | with_reducible apply And.intro | exact sd | exact sde trivial | exact sdp trivial | refine stk trivial ?_ | fail
  all_goals
   refine nx ?_
   refine rt trivial ?_
   refine ya ?_
   refine rg ΦWG_ok [2, 6, 28] trivial ?_
   refine cn ?_ ?_
   ·intro h; try exact na h
    all_goals
     refine rg ΦWG_ok [2, 3] trivial ?_
     refine nx ?_
     refine pureK_r (pureS_one (l := 20) (by simp -implicitDefEqProofs only [go_sem]) ?_)
     first
     | exact fz trivial
   ·exact fun h => na h)
noncomputable def ΦKG : Fns := tab [(158, wronggF)]
theorem ΦKG_ok : Sound E ΦKG := sound_cons (by kernel_rfl) wrongg_ok (sound_nil)
@[go_sem] theorem ΦKG_r : ΦKG 158 = some wronggF := rfl
@[go_sem] noncomputable def checkgF : PFn := PF [ST] (fun (t : T) => goodT t) (fun (t : T) => [.int .i64 0])
theorem checkg_ok : Pure E 116 checkgF := Pure.of_sig (rs := [.tmp 2]) (n := 12) Tryz.func116 rfl rfl rfl (Nat.le_of_ble_eq_true rfl) (by
 intro (t : T) hds
 refine st0 ?_
 refine rg ΦKG_ok [1] trivial ?_
 refine rg ΦKG_ok [3] trivial ?_
 refine rg ΦKG_ok [11] trivial ?_
 refine cn ?_ ?_
 ·exact fun h => na h
 intro h
 refine rg ΦKG_ok [2] trivial ?_
 exact fz trivial)
end Go.Proofs.YtpajpkbipagjpaaGreatDoor.Oc

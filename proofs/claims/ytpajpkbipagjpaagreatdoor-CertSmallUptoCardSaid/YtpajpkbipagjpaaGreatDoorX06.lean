/- What functions of the program, of its library and of the document compute: their contracts, and laws about what they compute (X06). No condition. -/
import Derived.Test.YtpajpkbipagjpaaGreatDoorX05
import Derived.Test.YtpajpkbipagjpaaGreatDoorX03
set_option linter.unusedVariables false
set_option linter.unusedSimpArgs false
namespace Go.Proofs.YtpajpkbipagjpaaGreatDoor.Oc
open Go Go.RowKit Go.Proofs.YtpajpkbipagjpaaGreatDoor.Vm Go.Proofs.YtpajpkbipagjpaaGreatDoor.Tr Go.IntWalk
set_option maxRecDepth 100000
set_option maxHeartbeats 4000000
@[go_sem] noncomputable def list0F : PFn := listF 100000001
theorem list0_ok : Pure E 57 list0F := list_ok 100000001
end Go.Proofs.YtpajpkbipagjpaaGreatDoor.Oc
namespace Go.Proofs.YtpajpkbipagjpaaGreatDoor.Oc
open Go Go.RowKit Go.Proofs.YtpajpkbipagjpaaGreatDoor.Vm Go.Proofs.YtpajpkbipagjpaaGreatDoor.Tr Go.IntWalk
set_option maxRecDepth 100000
set_option maxHeartbeats 4000000
theorem wt_app (a b : List T) : T.wt (a ++ b) = T.wt a + T.wt b := by unfold T.wt; rw [List.map_append, List.sum_append]
theorem wt_next {l : List T} {i : Nat} (h : i < l.length) : T.wt (l.take (i + 1)) = T.wt (l.take i) + (5 + (l.getD i T.zero).bytes.length) := by
 rw [List.take_add_one, List.getElem?_eq_getElem h, List.getD_eq_getElem?_getD, List.getElem?_eq_getElem h, wt_app]
 simp [T.wt]
theorem wt_take (l : List T) (i : Nat) : T.wt (l.take i) ≤ T.wt l := by
 conv => rhs; rw [← List.take_append_drop i l, wt_app]
 omega
theorem elt_bytes {l : List T} {i : Nat} (h : i < l.length) : (l.getD i T.zero).bytes.length ≤ T.wt l := by
 have h1 := wt_next h
 have h2 := wt_take l (i + 1)
 omega
theorem trW : (∀ (l : List T) (i : Nat), i < l.length → (T.wt (l.take (i + 1)) : Int) = (T.wt (l.take i) : Int) + 5 + ((l.getD i T.zero).bytes.length : Int)) ∧ ∀ l : List T, T.wt (l.take 0) = 0 := ⟨fun _ _ h => by have := wt_next h; omega, fun l => by simp [T.wt]⟩
noncomputable def ΦWI : Fns := tab [(57, list0F)]
theorem ΦWI_ok : Sound E ΦWI := sound_cons (by kernel_rfl) list0_ok (sound_nil)
@[go_sem] theorem ΦWI_r : ΦWI 57 = some list0F := rfl
@[go_sem] noncomputable def wideF : PFn := PF [ST] (fun (t : T) => t.sz ≤ 100000000) (fun (t : T) => [.bool (decide (5000 < t.sz))])
theorem wide_ok : Pure E 10 wideF := Pure.of_sig (rs := [.tmp 2]) (n := 25) Tryz.func10 rfl rfl rfl (Nat.le_of_ble_eq_true rfl) (by
 intro (t : T) hds
 have hw := T.wt_all t
 have hal := T.all_len t
 refine st0 ?_
 refine rg ΦWI_ok [1] trE ?_
 refine rg ΦWI_ok [3] trE ?_
 refine rg ΦWI_ok [3, 4] trE ?_
 refine rg ΦWI_ok [3, 4, 9, 10] trE ?_
 refine nx ?_
 refine VC.loopP (ι := Nat) [1, 3, 8, 9] (fun i => [(10, .dat (.int .i64 (i : Int))), (4, .dat (.int .i64 (T.wt (t.all.take i) : Int)))]) (fun _ => [(1, .cells [.dat (.int .i64 t.cls), .dat (.int .i64 t.tag), .dat (.bool t.cons), .dat (.lst (bytesD t.bytes)), .dat (.lst (nodesD t.kids))] false)]) (fun i => i ≤ t.all.length) (fun i => t.all.length - i) 0 (by omega) (ete (And.intro trE trW)) ?_
 rintro i hp; try dsimp only at hp
 refine st0 ?_
 refine rg ΦWI_ok [1, 3, 4, 8, 9, 10, 11] trE ?_
 refine cn ?_ ?_
 ·intro h; try exact nd h
  all_goals
   refine rg ΦWI_ok [1, 3, 4, 5, 8, 9, 10] trE ?_
   have hb := elt_bytes (l := t.all) (i := i) (by omega)
   have hn := wt_next (l := t.all) (i := i) (by omega)
   have hm := wt_take t.all i
   refine rgL ΦWI_ok trE ?_
   refine rgL ΦWI_ok trE ?_
   refine nx ?_
   exact ⟨i + 1, by omega, ete (And.intro trE trW), by omega⟩
 ·intro h; try exact nd h
  all_goals
   obtain rfl : i = t.all.length := by omega
   refine rg ΦWI_ok [2] trE ?_
   refine fi trivial ?_
   rw [hw]; exact decide_eq_decide.2 ⟨fun h => by omega, fun h => by omega⟩)
end Go.Proofs.YtpajpkbipagjpaaGreatDoor.Oc
namespace Go.Proofs.YtpajpkbipagjpaaGreatDoor.Oc
open Go Go.RowKit Go.Proofs.YtpajpkbipagjpaaGreatDoor.Vm Go.Proofs.YtpajpkbipagjpaaGreatDoor.Tr Go.IntWalk
set_option maxRecDepth 100000
set_option maxHeartbeats 4000000
def sizeH (h : Int) : Int := if h = 1 then 28 else if h = 2 then 32 else if h = 3 then 48 else if h = 4 then 64 else 0
def bitsH (h : Int) : Int := if h = 1 then 224 else if h = 2 then 256 else if h = 3 then 384 else if h = 4 then 512 else 0
theorem sizesD_len : sizesD.length = 5 := rfl
theorem bits_size (h : Int) : (bitsH h).tdiv 8 = sizeH h := by
 unfold bitsH sizeH; (repeat' split) <;> rfl
end Go.Proofs.YtpajpkbipagjpaaGreatDoor.Oc
namespace Go.Proofs.YtpajpkbipagjpaaGreatDoor.Oc
open Go Go.RowKit Go.Proofs.YtpajpkbipagjpaaGreatDoor.Vm Go.Proofs.YtpajpkbipagjpaaGreatDoor.Tr Go.IntWalk
set_option maxRecDepth 100000
set_option maxHeartbeats 4000000
theorem VCcall.frzArg {E : Env} {g : Nat} {d : D} {ds : List D} {x : Vm.Data} {st st' : St} {K : D → St → Prop} (hz : frz st d = some (x, st')) (h : VCcall E g (.dat x :: ds) st' K) : VCcall E g (d :: ds) st K := by
 intro Γ a as' β w args hΓ S hargs
 simp only [RVDs] at hargs
 obtain ⟨v, r, e, h1, h2⟩ := hargs
 obtain ⟨⟨S', Kp⟩, hr⟩ := frz_ok d S h1 hz
 refine h Γ a as' β w args hΓ S' ?_
 simp only [RVDs]
 exact ⟨v, r, e, by simp only [RVD]; exact hr, h2.keeps Kp⟩
def fld {α σ : Type} (f : α → σ → Bool × σ) : List α → σ → Bool × σ
 | [], s => (true, s)
 | x :: r, s => match f x s with
   | (true, s') => fld f r s'
   | (false, s') => (false, s')
theorem fld_append {α σ : Type} {f : α → σ → Bool × σ} : ∀ (a b : List α) (s : σ), fld f (a ++ b) s = (match fld f a s with
 | (true, s') => fld f b s'
 | (false, s') => (false, s'))
 | [], b, s => rfl
 | x :: r, b, s => by
   rw [List.cons_append, fld, fld]
   cases h : f x s with
   | mk c s' => cases c with
     | true => exact fld_append r b s'
     | false => rfl
theorem fld_cut {α σ : Type} {f : α → σ → Bool × σ} {a b : List α} {s s' : σ} (h : fld f a s = (false, s')) : fld f (a ++ b) s = (false, s') := by rw [fld_append, h]
theorem fld_go {α σ : Type} {f : α → σ → Bool × σ} {a b : List α} {s s' : σ} (h : fld f a s = (true, s')) : fld f (a ++ b) s = fld f b s' := by rw [fld_append, h]
def goW {σ : Type} (H HL : σ → List (Nat × Blk)) (c : Fr) (stk : List Fr) (K : D → St → Prop) (r : Bool × σ) : Prop :=
 match r with
 | (true, s) => K (.dat (.bool true)) ⟨c, stk, H s⟩
 | (false, s) => K (.dat (.bool false)) ⟨c, stk, HL s⟩
theorem all_take (t : T) {i : Nat} (h : i < t.kids.length) : t.all = t :: T.alls (t.kids.take i) ++ (t.kids.getD i T.zero).all ++ T.alls (t.kids.drop (i + 1)) := by
 have e : t.kids = t.kids.take (i + 1) ++ t.kids.drop (i + 1) := (List.take_append_drop _ _).symm
 rw [T.all_eq]
 conv => lhs; rw [e, T.alls_append, alls_next h]
 simp
theorem kid_good {P : T → Prop} {t : T} (h : ∀ x ∈ t.all, P x) {i : Nat} (hi : i < t.kids.length) : ∀ x ∈ (t.kids.getD i T.zero).all, P x := fun x hx => h x (by
 rw [all_take t hi]; simp only [List.mem_cons, List.mem_append]; exact .inl (.inr hx))
theorem kid_mem' {t : T} {i : Nat} (hi : i < t.kids.length) : t.kids.getD i T.zero ∈ t.kids := by
 rw [List.getD_eq_getElem?_getD, List.getElem?_eq_getElem hi]; exact List.getElem_mem hi
noncomputable def ΦWK : Fns := tab []
theorem ΦWK_ok : Sound E ΦWK := sound_nil
@[go_sem] theorem ΦWK_r : ΦWK 251 = none := rfl
@[go_sem] theorem ΦWK_c : callable Tryz.prog 251 = true := by kernel_rfl
theorem walk_ok {σ : Type} {l : Nat} {H HL : σ → List (Nat × Blk)} {f : T → σ → Bool × σ} {P : T → Prop}
 (step : ∀ {x : T} {s : σ} {c : Fr} {stk : List Fr} {K : D → St → Prop}, P x → goW H HL c stk K (f x s) → VCyield E l [.dat (.ptr [.int .i64 x.cls, .int .i64 x.tag, .bool x.cons, .lst (bytesD x.bytes), .lst (nodesD x.kids)])] ⟨c, stk, H s⟩ K) :
 ∀ (n : Nat) (t : T), t.sz ≤ n → t.sz ≤ 4611686018427387904 → (∀ x ∈ t.all, P x) → ∀ (c : Fr) (stk : List Fr) (s : σ) (K : D → St → Prop), goW H HL c stk K (fld f t.all s) →
  VCcall E 251 [.dat (.ptr [.int .i64 t.cls, .int .i64 t.tag, .bool t.cons, .lst (bytesD t.bytes), .lst (nodesD t.kids)]), .yld l] ⟨c, stk, H s⟩ K := by
 intro n
 induction n using Nat.strongRecOn with
 | _ n ih =>
 intro t hn hbig hg c stk s K hK0
 have hkl := kids_len t
 refine ec (rs := [.tmp 4]) (n := 28) Tryz.func251 rfl rfl rfl ?_
 refine rg ΦWK_ok [0, 1] trivial ?_
 refine rB ΦWK_ok [0, 1, 9] trivial fun K' hK => ?_
 repeat' first | with_reducible apply And.intro | exact sd | exact sde trivial | exact sdp trivial | refine stk trivial ?_ | fail
 refine step (x := t) (hg t (by rw [T.all_eq]; exact List.mem_cons_self)) ?_
 rcases hf : f t s with ⟨b1, s1⟩
 cases b1
 ·show _
  have hAll : fld f t.all s = (false, s1) := by rw [T.all_eq, fld, hf]
  dsimp only [goW]
  refine rt trivial ?_
  repeat' first | (refine lf hK trivial ?_; clear hK K') | with_reducible apply And.intro | exact sd | exact sde trivial | exact sdp trivial | refine stk trivial ?_ | fail
  all_goals
   refine cn ?_ ?_
   ·intro h; try exact na h
    all_goals
     refine rg ΦWK_ok [4] trivial ?_
     refine nx ?_
     refine rt trivial ?_
     rw [hAll] at hK0
     exact hK0
   ·intro h; try exact na h
    all_goals
     refine rg ΦWK_ok [0, 1, 14, 15] trivial ?_
     refine nx ?_
     refine VC.loop (ι := Nat × σ) (fun i => ⟨⟨28, [(0, .dat (.ptr [.int .i64 t.cls, .int .i64 t.tag, .bool t.cons, .lst (bytesD t.bytes), .lst (nodesD t.kids)])), (1, .yld l), (14, .dat (.int .i64 (t.kids.length : Int))), (15, .dat (.int .i64 (i.1 : Int)))], []⟩, c :: stk, H i.2⟩) (fun i => i.1 ≤ t.kids.length ∧ fld f (T.alls (t.kids.take i.1)) s1 = (true, i.2)) (fun i => t.kids.length - i.1) (0, s1) ⟨Nat.zero_le _, by rw [List.take_zero, T.alls_nil]; rfl⟩ ?_ ?_
     ·refine Ent.into ?_ rfl rfl rfl rfl
      simp -implicitDefEqProofs only [go_sem]; (try simp only [D.dat.injEq, Vm.Data.int.injEq, true_and, and_true, and_self, eq_self]); (try omega); (try ((repeat' apply And.intro) <;> first | omega | rfl))
     rintro ⟨i, s2⟩ hp; dsimp only at hp; obtain ⟨hp1, hp2⟩ := hp
     refine st0 ?_
     refine rg ΦWK_ok [0, 1, 14, 15, 16] trivial ?_
     refine cn ?_ ?_
     ·intro h; try exact na h
      all_goals
       have hi : i < t.kids.length := by omega
       refine rg ΦWK_ok [0, 1, 5, 14, 15] trivial ?_
       have hna := nodesD_at hi
       refine rB ΦWK_ok [0, 1, 14, 15, 26] (nodesD_at hi) fun K' hK => ?_
       repeat' first | with_reducible apply And.intro | exact sd | exact sde (nodesD_at hi) | exact sdp (nodesD_at hi) | refine stk (nodesD_at hi) ?_ | fail
       refine ih (t.kids.getD i T.zero).sz (Nat.lt_of_lt_of_le (T.kid_sz (kid_mem' hi)) hn) (t.kids.getD i T.zero) (Nat.le_refl _) (Nat.le_trans (Nat.le_of_lt (T.kid_sz (kid_mem' hi))) hbig) (kid_good hg hi) _ _ _ _ ?_
       rcases hk : fld f (t.kids.getD i T.zero).all s2 with ⟨b2, s3⟩
       cases b2
       ·show _
        have hAll : fld f t.all s = (false, s3) := by
         rw [all_take t hi, List.cons_append, List.cons_append, fld, hf]
         dsimp only
         rw [List.append_assoc, fld_go hp2, fld_cut hk]
        dsimp only [goW]
        refine rt trivial ?_
        repeat' first | (refine lf hK (nodesD_at hi) ?_; clear hK K') | with_reducible apply And.intro | exact sd | exact sde (nodesD_at hi) | exact sdp (nodesD_at hi) | refine stk (nodesD_at hi) ?_ | fail
        all_goals
         refine cn ?_ ?_
         ·intro h; try exact na h
          all_goals
           refine rg ΦWK_ok [4] trivial ?_
           refine nx ?_
           refine rt trivial ?_
           rw [hAll] at hK0
           exact hK0
         ·intro h; try exact na h
          all_goals
           refine rgL ΦWK_ok trivial ?_
           refine nx ?_
           refine ⟨(i + 1, s3), ⟨by dsimp only; omega, by dsimp only; rw [alls_next hi, fld_go hp2, hk]⟩, Ent.into ?_ rfl rfl rfl rfl, by dsimp only; omega⟩
           simp -implicitDefEqProofs only [go_sem]; (try simp (disch := omega) only [i64_in, tmodn, tdivn]); (try simp only [D.dat.injEq, Vm.Data.int.injEq, true_and, and_true, and_self, eq_self]); (try omega); (try ((repeat' apply And.intro) <;> first | omega | rfl))
       ·show _
        dsimp only [goW]
        refine rt trivial ?_
        repeat' first | (refine lf hK (nodesD_at hi) ?_; clear hK K') | with_reducible apply And.intro | exact sd | exact sde (nodesD_at hi) | exact sdp (nodesD_at hi) | refine stk (nodesD_at hi) ?_ | fail
        all_goals
         refine cn ?_ ?_
         ·intro h; try exact na h
          all_goals
           refine rg ΦWK_ok [4] trivial ?_
           refine nx ?_
           refine rt trivial ?_
           rw [hAll] at hK0
           exact hK0
         ·intro h; try exact na h
          all_goals
           refine rgL ΦWK_ok trivial ?_
           refine nx ?_
           refine ⟨(i + 1, s3), ⟨by dsimp only; omega, by dsimp only; rw [alls_next hi, fld_go hp2, hk]⟩, Ent.into ?_ rfl rfl rfl rfl, by dsimp only; omega⟩
           simp -implicitDefEqProofs only [go_sem]; (try simp (disch := omega) only [i64_in, tmodn, tdivn]); (try simp only [D.dat.injEq, Vm.Data.int.injEq, true_and, and_true, and_self, eq_self]); (try omega); (try ((repeat' apply And.intro) <;> first | omega | rfl))
     ·intro h; try exact na h
      all_goals
       have hAll : fld f t.all s = (true, s2) := by
        have : i = t.kids.length := by omega
        rw [T.all_eq, fld, hf]
        dsimp only
        rw [← hp2, this, List.take_length]
       refine rg ΦWK_ok [4] trivial ?_
       refine nx ?_
       refine rt trivial ?_
       rw [hAll] at hK0
       exact hK0
 ·show _
  dsimp only [goW]
  refine rt trivial ?_
  repeat' first | (refine lf hK trivial ?_; clear hK K') | with_reducible apply And.intro | exact sd | exact sde trivial | exact sdp trivial | refine stk trivial ?_ | fail
  all_goals
   refine cn ?_ ?_
   ·intro h; try exact na h
    all_goals
     refine rg ΦWK_ok [4] trivial ?_
     refine nx ?_
     refine rt trivial ?_
     rw [hAll] at hK0
     exact hK0
   ·intro h; try exact na h
    all_goals
     refine rg ΦWK_ok [0, 1, 14, 15] trivial ?_
     refine nx ?_
     refine VC.loop (ι := Nat × σ) (fun i => ⟨⟨28, [(0, .dat (.ptr [.int .i64 t.cls, .int .i64 t.tag, .bool t.cons, .lst (bytesD t.bytes), .lst (nodesD t.kids)])), (1, .yld l), (14, .dat (.int .i64 (t.kids.length : Int))), (15, .dat (.int .i64 (i.1 : Int)))], []⟩, c :: stk, H i.2⟩) (fun i => i.1 ≤ t.kids.length ∧ fld f (T.alls (t.kids.take i.1)) s1 = (true, i.2)) (fun i => t.kids.length - i.1) (0, s1) ⟨Nat.zero_le _, by rw [List.take_zero, T.alls_nil]; rfl⟩ ?_ ?_
     ·refine Ent.into ?_ rfl rfl rfl rfl
      simp -implicitDefEqProofs only [go_sem]; (try simp only [D.dat.injEq, Vm.Data.int.injEq, true_and, and_true, and_self, eq_self]); (try omega); (try ((repeat' apply And.intro) <;> first | omega | rfl))
     rintro ⟨i, s2⟩ hp; dsimp only at hp; obtain ⟨hp1, hp2⟩ := hp
     refine st0 ?_
     refine rg ΦWK_ok [0, 1, 14, 15, 16] trivial ?_
     refine cn ?_ ?_
     ·intro h; try exact na h
      all_goals
       have hi : i < t.kids.length := by omega
       refine rg ΦWK_ok [0, 1, 5, 14, 15] trivial ?_
       have hna := nodesD_at hi
       refine rB ΦWK_ok [0, 1, 14, 15, 26] (nodesD_at hi) fun K' hK => ?_
       repeat' first | with_reducible apply And.intro | exact sd | exact sde (nodesD_at hi) | exact sdp (nodesD_at hi) | refine stk (nodesD_at hi) ?_ | fail
       refine ih (t.kids.getD i T.zero).sz (Nat.lt_of_lt_of_le (T.kid_sz (kid_mem' hi)) hn) (t.kids.getD i T.zero) (Nat.le_refl _) (Nat.le_trans (Nat.le_of_lt (T.kid_sz (kid_mem' hi))) hbig) (kid_good hg hi) _ _ _ _ ?_
       rcases hk : fld f (t.kids.getD i T.zero).all s2 with ⟨b2, s3⟩
       cases b2
       ·show _
        have hAll : fld f t.all s = (false, s3) := by
         rw [all_take t hi, List.cons_append, List.cons_append, fld, hf]
         dsimp only
         rw [List.append_assoc, fld_go hp2, fld_cut hk]
        dsimp only [goW]
        refine rt trivial ?_
        repeat' first | (refine lf hK (nodesD_at hi) ?_; clear hK K') | with_reducible apply And.intro | exact sd | exact sde (nodesD_at hi) | exact sdp (nodesD_at hi) | refine stk (nodesD_at hi) ?_ | fail
        all_goals
         refine cn ?_ ?_
         ·intro h; try exact na h
          all_goals
           refine rg ΦWK_ok [4] trivial ?_
           refine nx ?_
           refine rt trivial ?_
           rw [hAll] at hK0
           exact hK0
         ·intro h; try exact na h
          all_goals
           refine rgL ΦWK_ok trivial ?_
           refine nx ?_
           refine ⟨(i + 1, s3), ⟨by dsimp only; omega, by dsimp only; rw [alls_next hi, fld_go hp2, hk]⟩, Ent.into ?_ rfl rfl rfl rfl, by dsimp only; omega⟩
           simp -implicitDefEqProofs only [go_sem]; (try simp (disch := omega) only [i64_in, tmodn, tdivn]); (try simp only [D.dat.injEq, Vm.Data.int.injEq, true_and, and_true, and_self, eq_self]); (try omega); (try ((repeat' apply And.intro) <;> first | omega | rfl))
       ·show _
        dsimp only [goW]
        refine rt trivial ?_
        repeat' first | (refine lf hK (nodesD_at hi) ?_; clear hK K') | with_reducible apply And.intro | exact sd | exact sde (nodesD_at hi) | exact sdp (nodesD_at hi) | refine stk (nodesD_at hi) ?_ | fail
        all_goals
         refine cn ?_ ?_
         ·intro h; try exact na h
          all_goals
           refine rg ΦWK_ok [4] trivial ?_
           refine nx ?_
           refine rt trivial ?_
           rw [hAll] at hK0
           exact hK0
         ·intro h; try exact na h
          all_goals
           refine rgL ΦWK_ok trivial ?_
           refine nx ?_
           refine ⟨(i + 1, s3), ⟨by dsimp only; omega, by dsimp only; rw [alls_next hi, fld_go hp2, hk]⟩, Ent.into ?_ rfl rfl rfl rfl, by dsimp only; omega⟩
           simp -implicitDefEqProofs only [go_sem]; (try simp (disch := omega) only [i64_in, tmodn, tdivn]); (try simp only [D.dat.injEq, Vm.Data.int.injEq, true_and, and_true, and_self, eq_self]); (try omega); (try ((repeat' apply And.intro) <;> first | omega | rfl))
     ·intro h; try exact na h
      all_goals
       have hAll : fld f t.all s = (true, s2) := by
        have : i = t.kids.length := by omega
        rw [T.all_eq, fld, hf]
        dsimp only
        rw [← hp2, this, List.take_length]
       refine rg ΦWK_ok [4] trivial ?_
       refine nx ?_
       refine rt trivial ?_
       rw [hAll] at hK0
       exact hK0
end Go.Proofs.YtpajpkbipagjpaaGreatDoor.Oc
namespace Go.Proofs.YtpajpkbipagjpaaGreatDoor.Oc
open Go Go.RowKit Go.Proofs.YtpajpkbipagjpaaGreatDoor.Vm Go.Proofs.YtpajpkbipagjpaaGreatDoor.Tr Go.IntWalk
set_option maxRecDepth 100000
set_option maxHeartbeats 4000000
mutual
def dep : T → Nat
 | .mk _ _ _ _ ks => 1 + deps ks
def deps : List T → Nat
 | [] => 0
 | t :: ts => max (dep t) (deps ts)
end
theorem dep_eq (t : T) : dep t = 1 + deps t.kids := by cases t; rw [dep]; rfl
theorem deps_nil : deps [] = 0 := by rw [deps]
theorem deps_cons (t : T) (l : List T) : deps (t :: l) = max (dep t) (deps l) := by rw [deps]
theorem deps_append : ∀ (a b : List T), deps (a ++ b) = max (deps a) (deps b)
 | [], b => by rw [deps_nil, List.nil_append]; omega
 | t :: a, b => by rw [List.cons_append, deps_cons, deps_cons, deps_append a b]; omega
theorem deps_next {t : T} {i : Nat} (h : i < t.kids.length) : deps (t.kids.take (i + 1)) = max (deps (t.kids.take i)) (dep (t.kids.getD i T.zero)) := by
 rw [List.take_add_one, List.getElem?_eq_getElem h, deps_append, List.getD_eq_getElem?_getD, List.getElem?_eq_getElem h]
 simp only [Option.toList_some, Option.getD_some, deps_cons, deps_nil]
 omega
theorem all_cnt (t : T) : t.all.length = 1 + (T.alls t.kids).length := by rw [T.all_eq, List.length_cons]; omega
theorem alls_cnt {t : T} {i : Nat} (h : i < t.kids.length) : (T.alls (t.kids.take (i + 1))).length = (T.alls (t.kids.take i)).length + (t.kids.getD i T.zero).all.length := by
 rw [alls_next h, List.length_append]
theorem dep_sz (n : Nat) : ∀ t : T, t.sz ≤ n → dep t ≤ t.sz := by
 induction n using Nat.strongRecOn with
 | _ n ih =>
 intro t hn
 have key : ∀ l : List T, T.szs l < n → deps l ≤ T.szs l := by
  intro l
  induction l with
  | nil => intro _; rw [deps_nil]; omega
  | cons x l ihl =>
    intro h
    rw [T.szs_cons] at h ⊢
    have h1 := ih x.sz (by omega) x (Nat.le_refl _)
    have h2 := ihl (by omega)
    rw [deps_cons]; omega
 have hs := T.sz_eq t
 have := key t.kids (by omega)
 rw [dep_eq]; omega
theorem cnt0 (t : T) : (T.alls (t.kids.take 0)).length = 0 ∧ deps (t.kids.take 0) = 0 := by
 rw [List.take_zero, T.alls_nil, deps_nil]; exact ⟨rfl, rfl⟩
theorem cnt1 {t : T} {i : Nat} (h : i = t.kids.length) : (1 + ((T.alls (t.kids.take i)).length : Int)) = (t.all.length : Int) ∧ (1 + (deps (t.kids.take i) : Int)) = (dep t : Int) := by
 rw [h, List.take_length, all_cnt, dep_eq]
 exact ⟨by omega, by omega⟩
@[go_sem] noncomputable def cntF (n : Nat) : PFn := PF [ST] (fun (t : T) => t.sz < n ∧ t.sz ≤ 100000000) (fun (t : T) => [.int .i64 (t.all.length : Int), .int .i64 (dep t : Int)])
noncomputable def ΦCnt (m : Nat) : Fns := tab [(209, cntF m)]
theorem ΦCnt_ok {m : Nat} (h : Pure E 209 (cntF m)) : Sound E (ΦCnt m) := sound_cons (by kernel_rfl) h sound_nil
@[go_sem] theorem ΦCnt_r (m : Nat) : ΦCnt m 209 = some (cntF m) := rfl
theorem cnt_ok (n : Nat) : Pure E 209 (cntF n) := by
 induction n using Nat.strongRecOn with
 | _ n ih =>
 exact Pure.of_sig (rs := [.tmp 2, .tmp 3]) (n := 30) Tryz.func209 rfl rfl rfl (Nat.le_of_ble_eq_true rfl) (by
  intro (t : T) hds
  have hal := T.all_len t
  have hdp := dep_sz _ t (Nat.le_refl _)
  have hkl := kids_len t
  have hac := all_cnt t
  have hde := dep_eq t
  have hΦ := ΦCnt_ok (ih (t.sz) (by omega))
  refine st0 ?_
  refine rg hΦ [1] trE ?_
  refine rg hΦ [1, 2, 3] trE ?_
  refine rg hΦ [2, 3, 9, 10, 11] trE ?_
  refine nx ?_
  refine VC.loopP (ι := Nat) [9, 10] (fun i => [(2, .dat (.int .i64 (1 + ((T.alls (t.kids.take i)).length : Int)))), (3, .dat (.int .i64 (1 + (deps (t.kids.take i) : Int)))), (11, .dat (.int .i64 (i : Int)))]) (fun _ => []) (fun i => i ≤ t.kids.length) (fun i => t.kids.length - i) 0 (by omega) (ete (cnt0 t)) ?_
  rintro i hp; try dsimp only at hp
  refine st0 ?_
  refine rg hΦ [2, 3, 9, 10, 11, 12] trE ?_
  refine cn ?_ ?_
  ·intro h; try exact nd h
   all_goals
    have hi : i < t.kids.length := by omega
    refine rg hΦ [2, 3, 5, 9, 10, 11] (nodesD_at hi) ?_
    have hk := T.kid_sz (kid_mem' hi)
    have hka := T.all_len (t.kids.getD i T.zero)
    have hkd := dep_sz _ (t.kids.getD i T.zero) (Nat.le_refl _)
    refine rg hΦ [2, 3, 6, 7, 9, 10, 11] trE ?_
    have hna := alls_cnt hi
    have hnd := deps_next hi
    have hta := alls_take_len (t := t) (i := i)
    have htb := alls_take_len (t := t) (i := i + 1)
    refine rgL hΦ trE ?_
    refine rgL hΦ trE ?_
    refine nx ?_
    exact ⟨i + 1, by omega, ete (And.intro hna hnd), by omega⟩
  ·intro h; try exact nd h
   all_goals
    have hi : i = t.kids.length := by omega
    have hy := cnt1 (t := t) hi
    refine rg hΦ [2, 3] trE ?_
    first
    | exact fz hy)
@[go_sem] noncomputable def cnt0F : PFn := cntF 100000001
theorem cnt0_ok : Pure E 209 cnt0F := cnt_ok 100000001
end Go.Proofs.YtpajpkbipagjpaaGreatDoor.Oc
namespace Go.Proofs.YtpajpkbipagjpaaGreatDoor.Tr
open Go Go.RowKit Go.Proofs.YtpajpkbipagjpaaGreatDoor.Vm
section
variable {P : Program} {t : TypeId} {n : Nat} {ds : List Vm.Data}
theorem CT_bool (h : P.underlying t = some .bool) (c : CT P n t ds) : ∃ b, ds = [.bool b] := by
 cases n with
 | zero => exact c.elim
 | succ n => rw [CT, h] at c; exact c
theorem CT_int {k : IntKind} (h : P.underlying t = some (.int k)) (c : CT P n t ds) : ∃ i, ds = [.int k i] ∧ (Lit.int k i).wf = true := by
 cases n with
 | zero => exact c.elim
 | succ n => rw [CT, h] at c; exact c
theorem CT_str (h : P.underlying t = some .string) (c : CT P n t ds) : ∃ s, ds = [.str s] ∧ s.length ≤ maxLen := by
 cases n with
 | zero => exact c.elim
 | succ n => rw [CT, h] at c; exact c
theorem CT_slice {e : TypeId} (h : P.underlying t = some (.slice e)) (c : CT P n t ds) : ∃ m xs, n = m + 1 ∧ ds = [.lst xs] ∧ xs.length ≤ maxLen ∧ ∀ x ∈ xs, CT P m e x := by
 cases n with
 | zero => exact c.elim
 | succ n =>
   rw [CT, h] at c
   obtain ⟨xs, h1, h2, h3⟩ := c
   exact ⟨n, xs, rfl, h1, h2, h3⟩
theorem CT_struct {fs : Array Field} (h : P.underlying t = some (.struct fs)) (c : CT P n t ds) : ∃ m, n = m + 1 ∧ ds.length = P.cellsOf t ∧ ∀ f ∈ fs.toList, CT P m f.type ((ds.drop f.offset).take (P.cellsOf f.type)) := by
 cases n with
 | zero => exact c.elim
 | succ n =>
   rw [CT, h] at c
   exact ⟨n, rfl, c⟩
theorem bytes_rows {e : TypeId} (he : P.underlying e = some (.int .u8)) : ∀ (xs : List (List Vm.Data)), (∀ x ∈ xs, CT P n e x) → ∃ l : List UInt8, xs = bytesD l
 | [], _ => ⟨[], rfl⟩
 | x :: xs, h => by
   obtain ⟨i, rfl, hi⟩ := CT_int he (h x (by simp))
   obtain ⟨l, rfl⟩ := bytes_rows he xs fun y hy => h y (by simp [hy])
   obtain ⟨m, hm, _⟩ := bytes_of [i] (by simpa using hi)
   have : ∃ b : UInt8, m = [b] := by
    cases m with
    | nil => simp [bytesD] at hm
    | cons b m => cases m with
      | nil => exact ⟨b, rfl⟩
      | cons => simp [bytesD] at hm
   obtain ⟨b, rfl⟩ := this
   refine ⟨b :: l, ?_⟩
   simp only [List.map_cons, List.map_nil, bytesD, List.cons.injEq, and_true] at hm ⊢
   exact hm
theorem CT_bytes {e : TypeId} (h : P.underlying t = some (.slice e)) (he : P.underlying e = some (.int .u8)) (c : CT P n t ds) : ∃ l : List UInt8, ds = [.lst (bytesD l)] := by
 obtain ⟨m, xs, _, rfl, _, hx⟩ := CT_slice h c
 obtain ⟨l, rfl⟩ := bytes_rows he xs hx
 exact ⟨l, rfl⟩
theorem len5 {α : Type} {l : List α} (h : l.length = 5) : ∃ a b c d e, l = [a, b, c, d, e] := by
 match l, h with
 | [a, b, c, d, e], _ => exact ⟨a, b, c, d, e, rfl⟩
theorem bk_bytes (s : List UInt8) : bkE (bytesD s) = s.length := by
 induction s with
 | nil => rfl
 | cons b s ih =>
   have : bytesD (b :: s) = [.int .u8 (b.toNat : Int)] :: bytesD s := rfl
   rw [this, bkE, ih, List.length_cons]
   simp only [bkC, bk]; omega
theorem bk_nodes (n : Nat) : ∀ l : List T, T.szs l ≤ n → bkE (nodesD l) = T.szs l := by
 induction n with
 | zero => intro l h; cases l with
   | nil => rw [nodesD_nil, bkE, T.szs_nil]
   | cons t l => rw [T.szs_cons, T.sz_eq t] at h; omega
 | succ n ih => intro l h; cases l with
   | nil => rw [nodesD_nil, bkE, T.szs_nil]
   | cons t l =>
     rw [T.szs_cons, T.sz_eq t] at h
     rw [nodesD_cons, bkE, ih l (by omega), T.szs_cons, nodeC_eq, T.sz_eq t]
     simp only [bkC, bk, bk_bytes, ih t.kids (by omega)]; omega
theorem bk_node (t : T) : bkC (nodeC t) = t.sz := by
 rw [nodeC_eq, T.sz_eq t]
 simp only [bkC, bk, bk_bytes, bk_nodes _ t.kids (Nat.le_refl _)]; omega
structure NodeTy (P : Program) (tn ti tb ty tu tk : TypeId) : Prop where
 node : ∃ f0 f1 f2 f3 f4 : Field, P.underlying tn = some (.struct #[f0, f1, f2, f3, f4]) ∧ f0.type = ti ∧ f1.type = ti ∧ f2.type = tb ∧ f3.type = ty ∧ f4.type = tk ∧ f0.offset = 0 ∧ f1.offset = 1 ∧ f2.offset = 2 ∧ f3.offset = 3 ∧ f4.offset = 4
 int : P.underlying ti = some (.int .i64)
 bool : P.underlying tb = some .bool
 bytes : P.underlying ty = some (.slice tu)
 u8 : P.underlying tu = some (.int .u8)
 kids : P.underlying tk = some (.slice tn)
 cells : P.cellsOf tn = 5 ∧ P.cellsOf ti = 1 ∧ P.cellsOf tb = 1 ∧ P.cellsOf ty = 1 ∧ P.cellsOf tk = 1
theorem CT_node {tn ti tb ty tu tk : TypeId} (N : NodeTy P tn ti tb ty tu tk) : ∀ (n : Nat) (ds : List Vm.Data), CT P n tn ds → ∃ t : T, ds = nodeC t := by
 intro n
 induction n using Nat.strongRecOn with
 | _ n ih =>
   intro ds c
   obtain ⟨f0, f1, f2, f3, f4, hu, t0, t1, t2, t3, t4, o0, o1, o2, o3, o4⟩ := N.node
   obtain ⟨c5, ci, cb, cy, ck⟩ := N.cells
   obtain ⟨m, rfl, hl, hf⟩ := CT_struct hu c
   obtain ⟨d0, d1, d2, d3, d4, rfl⟩ := len5 (hl.trans c5)
   have g0 := hf f0 (by simp)
   have g1 := hf f1 (by simp)
   have g2 := hf f2 (by simp)
   have g3 := hf f3 (by simp)
   have g4 := hf f4 (by simp)
   rw [t0, o0, ci] at g0
   rw [t1, o1, ci] at g1
   rw [t2, o2, cb] at g2
   rw [t3, o3, cy] at g3
   rw [t4, o4, ck] at g4
   obtain ⟨i0, e0, _⟩ := CT_int N.int g0
   obtain ⟨i1, e1, _⟩ := CT_int N.int g1
   obtain ⟨b, e2⟩ := CT_bool N.bool g2
   obtain ⟨s, e3⟩ := CT_bytes N.bytes N.u8 g3
   obtain ⟨q, xs, rfl, e4, _, hx⟩ := CT_slice N.kids g4
   have hk : ∀ xs : List (List Vm.Data), (∀ x ∈ xs, CT P q tn x) → ∃ l : List T, xs = nodesD l := by
    intro xs
    induction xs with
    | nil => intro _; exact ⟨[], nodesD_nil.symm⟩
    | cons x xs ihx =>
      intro h
      obtain ⟨t, rfl⟩ := ih q (by omega) x (h x (by simp))
      obtain ⟨l, rfl⟩ := ihx fun y hy => h y (by simp [hy])
      exact ⟨t :: l, (nodesD_cons t l).symm⟩
   obtain ⟨l, rfl⟩ := hk xs hx
   simp only [List.drop_zero, List.drop_succ_cons, List.take_succ_cons, List.take_zero, List.cons.injEq, and_true] at e0 e1 e2 e3 e4
   subst e0 e1 e2 e3 e4
   exact ⟨.mk i0 i1 b s l, by rw [nodeC]⟩
end
section
variable {H : Type} {enc : TypeId × Value → H} {P : Program} {w : World} {S : List TypeId} {B : DataW H → Nat} {BA : List (DataW H) → Nat}
theorem told_agg (hB : Bulk B BA) (hS : closedT P S = true) {t : TypeId} {v : Value} {d : DataW H} {ps : List MemPlace} {cs : Array Value} (ht : t ∈ S) (hv : v = .agg cs) (h : DataW.Trod enc P w 0 (fun _ => true) true t v d ps) :
 ∃ n ds, CT P n t ds ∧ RV w (All w) (.agg ds) v ∧ bkC ds ≤ B d := by
 subst hv
 obtain ⟨fuel, hf⟩ := h
 obtain ⟨ds, h1, h2, _, h4⟩ := trod_told hB hS fuel t _ _ ht hf
 exact ⟨fuel, ds, h1, by simp only [RV]; exact ⟨cs, rfl, by simpa [Value.cells] using h2⟩, h4⟩
theorem told_one (hB : Bulk B BA) (hS : closedT P S = true) {t : TypeId} {v : Value} {d : DataW H} {ps : List MemPlace} (ht : t ∈ S) (hv : v.cells = #[v]) (h : DataW.Trod enc P w 0 (fun _ => true) true t v d ps) :
 ∃ n d', CT P n t [d'] ∧ RV w (All w) d' v ∧ bk d' ≤ B d := by
 obtain ⟨fuel, hf⟩ := h
 obtain ⟨ds, h1, h2, _, h4⟩ := trod_told hB hS fuel t _ _ ht hf
 rw [hv] at h2
 cases ds with
 | nil => simp [RVs] at h2
 | cons d1 r =>
   simp only [RVs] at h2
   obtain ⟨u, r', e, q1, q2⟩ := h2
   injection e with e1 e2
   subst e1 e2
   cases r with
   | cons => simp [RVs] at q2
   | nil => exact ⟨fuel, d1, h1, q1, by simpa [bkC] using h4⟩
end
end Go.Proofs.YtpajpkbipagjpaaGreatDoor.Tr
namespace Go.Proofs.YtpajpkbipagjpaaGreatDoor.Tr
open Go Go.RowKit Go.Proofs.YtpajpkbipagjpaaGreatDoor.Vm
structure Rd where
 kind : Int
 text : List UInt8
 print : Bool
 deriving Inhabited, DecidableEq
def Rd.zero : Rd := ⟨0, [], false⟩
theorem rd_eta (r : Rd) : Rd.mk r.kind r.text r.print = r := rfl
def rdC (r : Rd) : List Vm.Data := [.int .i64 r.kind, .str r.text, .bool r.print]
def rdsD (l : List Rd) : List (List Vm.Data) := l.map rdC
theorem rdC_eq (r : Rd) : rdC r = [.int .i64 r.kind, .str r.text, .bool r.print] := rfl
theorem rdsD_nil : rdsD [] = [] := rfl
theorem rdsD_cons (r : Rd) (l : List Rd) : rdsD (r :: l) = rdC r :: rdsD l := rfl
theorem rdsD_len (l : List Rd) : (rdsD l).length = l.length := by simp [rdsD]
theorem rdsD_snoc (l : List Rd) (k : Int) (s : List UInt8) (b : Bool) : rdsD l ++ [[.int .i64 k, .str s, .bool b]] = rdsD (l ++ [⟨k, s, b⟩]) := by
 simp only [rdsD, List.map_append, List.map_cons, List.map_nil, rdC]
theorem rdsD_take (l : List Rd) (n : Nat) : (rdsD l).take n = rdsD (l.take n) := by simp only [rdsD, List.map_take]
theorem rdsD_at {l : List Rd} {k : Nat} (h : k < l.length) : (rdsD l).getD k [] = [.int .i64 (l.getD k Rd.zero).kind, .str (l.getD k Rd.zero).text, .bool (l.getD k Rd.zero).print] := by
 rw [rdsD, List.getD_eq_getElem?_getD, List.getElem?_map, List.getElem?_eq_getElem h, List.getD_eq_getElem?_getD, List.getElem?_eq_getElem h]
 rfl
theorem rdC_inj {a b : Rd} (h : rdC a = rdC b) : a = b := by
 cases a; cases b
 simp only [rdC, List.cons.injEq, Vm.Data.int.injEq, Vm.Data.str.injEq, Vm.Data.bool.injEq, true_and, and_true] at h
 obtain ⟨rfl, rfl, rfl⟩ := h; rfl
theorem rdsD_inj : ∀ {a b : List Rd}, rdsD a = rdsD b ↔ a = b := by
 intro a
 induction a with
 | nil => intro b; cases b <;> simp [rdsD]
 | cons x a ih =>
   intro b
   cases b with
   | nil => simp [rdsD]
   | cons y b =>
     rw [rdsD_cons, rdsD_cons]
     constructor
     ·intro h
      injection h with h1 h2
      rw [rdC_inj h1, ih.1 h2]
     ·intro h; injection h with h1 h2; rw [h1, h2]
@[reducible] def SR : Sig := ⟨Rd, fun t => .agg (rdC t), fun _ _ h => by injection h with h; exact rdC_inj h⟩
@[reducible] def SRs : Sig := ⟨List Rd, fun l => .lst (rdsD l), fun _ _ h => by injection h with h; exact rdsD_inj.1 h⟩
theorem SR_dec {k : Int} {s : List UInt8} {b : Bool} : SR.dec (.agg [.int .i64 k, .str s, .bool b]) = some ⟨k, s, b⟩ := SR.dec_enc ⟨k, s, b⟩
noncomputable def decR (xs : List (List Vm.Data)) : Option (List Rd) := by
 classical exact if h : ∃ l, rdsD l = xs then some (Classical.choose h) else none
theorem decR_rds {l : List Rd} : decR (rdsD l) = some l := by
 have h : ∃ m, rdsD m = rdsD l := ⟨l, rfl⟩
 unfold decR
 rw [dif_pos h]
 exact congrArg some (rdsD_inj.1 (Classical.choose_spec h))
theorem decR_some {xs : List (List Vm.Data)} {l : List Rd} (h : decR xs = some l) : rdsD l = xs := by
 unfold decR at h
 split at h
 ·rename_i h'
  simp only [Option.some.injEq] at h
  rw [← h]; exact Classical.choose_spec h'
 ·cases h
theorem SRs_dec {xs : List (List Vm.Data)} : SRs.dec (.lst xs) = decR xs := by
 cases hx : decR xs with
 | some l =>
   obtain rfl := decR_some hx
   exact SRs.dec_enc l
 | none =>
   cases hy : SRs.dec (.lst xs) with
   | none => rfl
   | some m =>
     exfalso
     have this : Vm.Data.lst (rdsD m) = .lst xs := Sig.dec_some hy
     injection this with this
     have e := @decR_rds m
     rw [this, hx] at e; cases e
noncomputable def apR {β : Type} (z : β) (ss : List Sig) (f : Fun (SRs :: ss) β) (o : Option (List Rd)) (ds : List Vm.Data) : β :=
 match o with
 | some l => ap z ss (f l) ds
 | none => z
structure Im where
 hash : Int
 null : Bool
 dig : List UInt8
 deriving Inhabited, DecidableEq
def imC (r : Im) : List Vm.Data := [.int .i64 r.hash, .bool r.null, .lst (bytesD r.dig)]
theorem imC_eq (r : Im) : imC r = [.int .i64 r.hash, .bool r.null, .lst (bytesD r.dig)] := rfl
theorem imC_inj {a b : Im} (h : imC a = imC b) : a = b := by
 cases a; cases b
 simp only [imC, List.cons.injEq, Vm.Data.int.injEq, Vm.Data.lst.injEq, Vm.Data.bool.injEq, true_and, and_true] at h
 obtain ⟨rfl, rfl, h⟩ := h
 rw [bytesD_inj.1 h]
@[reducible] def SIm : Sig := ⟨Im, fun t => .agg (imC t), fun _ _ h => by injection h with h; exact imC_inj h⟩
theorem SIm_dec {k : Int} {s : List UInt8} {b : Bool} : SIm.dec (.agg [.int .i64 k, .bool b, .lst (bytesD s)]) = some ⟨k, b, s⟩ := SIm.dec_enc ⟨k, b, s⟩
section
variable {β : Type} {z : β} {ss : List Sig} {ds : List Vm.Data}
theorem ap_SR {f : Fun (SR :: ss) β} {k : Int} {s : List UInt8} {b : Bool} : ap z (SR :: ss) f (.agg [.int .i64 k, .str s, .bool b] :: ds) = ap z ss (f ⟨k, s, b⟩) ds := by rw [ap_cons, SR_dec, apO_some]
theorem ap_SIm {f : Fun (SIm :: ss) β} {k : Int} {s : List UInt8} {b : Bool} : ap z (SIm :: ss) f (.agg [.int .i64 k, .bool b, .lst (bytesD s)] :: ds) = ap z ss (f ⟨k, b, s⟩) ds := by rw [ap_cons, SIm_dec, apO_some]
theorem ap_SIm0 {f : Fun (SIm :: ss) β} {k : Int} {b : Bool} : ap z (SIm :: ss) f (.agg [.int .i64 k, .bool b, .lst []] :: ds) = ap z ss (f ⟨k, b, []⟩) ds := ap_SIm (s := [])
theorem ap_SRs {f : Fun (SRs :: ss) β} {xs : List (List Vm.Data)} : ap z (SRs :: ss) f (.lst xs :: ds) = apR z ss f (decR xs) ds := by
 rw [ap_cons, SRs_dec]
 cases decR xs <;> rfl
theorem apR_some {f : Fun (SRs :: ss) β} {l : List Rd} : apR z ss f (some l) ds = ap z ss (f l) ds := rfl
end
attribute [go_sem] rd_eta rdC_eq imC_eq ap_SR ap_SIm ap_SIm0 ap_SRs apR_some decR_rds rdsD_len rdsD_take
theorem rdE : ∀ (l : List Rd) (k : Nat), k < l.length → (rdsD l).getD k [] = [.int .i64 (l.getD k Rd.zero).kind, .str (l.getD k Rd.zero).text, .bool (l.getD k Rd.zero).print] := fun _ _ h => rdsD_at h
end Go.Proofs.YtpajpkbipagjpaaGreatDoor.Tr
namespace Go.Proofs.YtpajpkbipagjpaaGreatDoor.Tr
open Go Go.RowKit Go.Proofs.YtpajpkbipagjpaaGreatDoor.Vm
theorem primC (g : Int) (b : List UInt8) : nodeC (primT g b) = [.int .i64 0, .int .i64 g, .bool false, .lst (bytesD b), .lst []] := by
 unfold primT; rw [nodeC, nodesD_nil]
theorem primC_inj {g : Int} {a b : List UInt8} (h : nodeC (primT g a) = nodeC (primT g b)) : a = b := by
 have := nodeC_inj h
 unfold primT at this; injection this
@[reducible] def SNp (g : Int) : Sig := ⟨List UInt8, fun b => .agg (nodeC (primT g b)), fun _ _ h => by injection h with h; exact primC_inj h⟩
@[reducible] def SPp (g : Int) : Sig := ⟨List UInt8, fun b => .ptr (nodeC (primT g b)), fun _ _ h => by injection h with h; exact primC_inj h⟩
theorem SNp_enc {g : Int} {b : List UInt8} : (SNp g).enc b = .agg (nodeC (primT g b)) := rfl
theorem SPp_enc {g : Int} {b : List UInt8} : (SPp g).enc b = .ptr (nodeC (primT g b)) := rfl
theorem SNp_dec {g : Int} {b : List UInt8} : (SNp g).dec (.agg [.int .i64 0, .int .i64 g, .bool false, .lst (bytesD b), .lst []]) = some b := by
 have := (SNp g).dec_enc b
 rwa [SNp_enc, primC] at this
theorem SPp_dec {g : Int} {b : List UInt8} : (SPp g).dec (.ptr [.int .i64 0, .int .i64 g, .bool false, .lst (bytesD b), .lst []]) = some b := by
 have := (SPp g).dec_enc b
 rwa [SPp_enc, primC] at this
section
variable {β : Type} {z : β} {ss : List Sig} {ds : List Vm.Data} {g : Int}
theorem ap_SNp {f : Fun (SNp g :: ss) β} {b : List UInt8} : ap z (SNp g :: ss) f (.agg [.int .i64 0, .int .i64 g, .bool false, .lst (bytesD b), .lst []] :: ds) = ap z ss (f b) ds := by rw [ap_cons, SNp_dec, apO_some]
theorem ap_SPp {f : Fun (SPp g :: ss) β} {b : List UInt8} : ap z (SPp g :: ss) f (.ptr [.int .i64 0, .int .i64 g, .bool false, .lst (bytesD b), .lst []] :: ds) = ap z ss (f b) ds := by rw [ap_cons, SPp_dec, apO_some]
end
theorem leafE (g : Int) (b : List UInt8) : (primT g b).cls = 0 ∧ (primT g b).tag = g ∧ (primT g b).cons = false ∧ (primT g b).bytes = b ∧ (primT g b).kids = [] ∧ nodesD [] = [] := ⟨rfl, rfl, rfl, rfl, rfl, nodesD_nil⟩
attribute [go_sem] SNp_enc SPp_enc ap_SNp ap_SPp
end Go.Proofs.YtpajpkbipagjpaaGreatDoor.Tr

/- What functions of the program, of its library and of the document compute: their contracts, and laws about what they compute (X05). No condition. -/
import Derived.Test.YtpajpkbipagjpaaGreatDoorX03
import Derived.Test.YtpajpkbipagjpaaGreatDoorProg
import Derived.WalkKit
import Derived.IntWalk
set_option linter.unusedVariables false
set_option linter.unusedSimpArgs false
namespace Go.Proofs.YtpajpkbipagjpaaGreatDoor.Tr
open Go Go.RowKit Go.Proofs.YtpajpkbipagjpaaGreatDoor.Vm
inductive T where
 | mk (cls tag : Int) (cons : Bool) (bytes : List UInt8) (kids : List T)
 deriving Inhabited
namespace T
def cls : T → Int | .mk c _ _ _ _ => c
def tag : T → Int | .mk _ g _ _ _ => g
def cons : T → Bool | .mk _ _ b _ _ => b
def bytes : T → List UInt8 | .mk _ _ _ s _ => s
def kids : T → List T | .mk _ _ _ _ ks => ks
theorem cls_mk {c g : Int} {b : Bool} {s : List UInt8} {ks : List T} : (T.mk c g b s ks).cls = c := rfl
theorem tag_mk {c g : Int} {b : Bool} {s : List UInt8} {ks : List T} : (T.mk c g b s ks).tag = g := rfl
theorem cons_mk {c g : Int} {b : Bool} {s : List UInt8} {ks : List T} : (T.mk c g b s ks).cons = b := rfl
theorem bytes_mk {c g : Int} {b : Bool} {s : List UInt8} {ks : List T} : (T.mk c g b s ks).bytes = s := rfl
theorem kids_mk {c g : Int} {b : Bool} {s : List UInt8} {ks : List T} : (T.mk c g b s ks).kids = ks := rfl
theorem eta (t : T) : T.mk t.cls t.tag t.cons t.bytes t.kids = t := by cases t; rfl
def zero : T := .mk 0 0 false [] []
mutual
def beq : T → T → Bool
 | .mk c g b s ks, .mk c' g' b' s' ks' => decide (c = c') && (decide (g = g') && (decide (b = b') && (decide (s = s') && beqs ks ks')))
def beqs : List T → List T → Bool
 | [], [] => true
 | x :: xs, y :: ys => beq x y && beqs xs ys
 | [], _ :: _ => false
 | _ :: _, [] => false
end
mutual
theorem beq_eq : ∀ (a b : T), (beq a b = true) ↔ a = b
 | .mk c g b s ks, .mk c' g' b' s' ks' => by
   simp only [beq, Bool.and_eq_true, decide_eq_true_eq, beqs_eq ks ks', T.mk.injEq]
theorem beqs_eq : ∀ (a b : List T), (beqs a b = true) ↔ a = b
 | [], [] => by simp [beqs]
 | x :: xs, y :: ys => by simp only [beqs, Bool.and_eq_true, beq_eq x y, beqs_eq xs ys, List.cons.injEq]
 | [], _ :: _ => by simp [beqs]
 | _ :: _, [] => by simp [beqs]
end
instance : DecidableEq T := fun a b => decidable_of_iff _ (beq_eq a b)
mutual
def sz : T → Nat
 | .mk _ _ _ s ks => 5 + s.length + szs ks
def szs : List T → Nat
 | [] => 0
 | t :: ts => sz t + szs ts
end
theorem sz_mk {c g : Int} {b : Bool} {s : List UInt8} {ks : List T} : sz (.mk c g b s ks) = 5 + s.length + szs ks := by rw [sz]
theorem szs_nil : szs [] = 0 := by rw [szs]
theorem szs_cons {t : T} {ts : List T} : szs (t :: ts) = sz t + szs ts := by rw [szs]
theorem sz_eq (t : T) : t.sz = 5 + t.bytes.length + szs t.kids := by cases t; rw [sz]; rfl
theorem szs_mem {t : T} {l : List T} (h : t ∈ l) : t.sz ≤ szs l := by
 induction l with
 | nil => cases h
 | cons x l ih =>
   rw [szs_cons]
   rcases List.mem_cons.1 h with rfl | h
   ·omega
   ·have := ih h; omega
theorem szs_len (l : List T) : 5 * l.length ≤ szs l := by
 induction l with
 | nil => simp
 | cons x l ih => rw [szs_cons, sz_eq x, List.length_cons]; omega
theorem kid_sz {t k : T} (h : k ∈ t.kids) : k.sz < t.sz := by
 have := szs_mem h
 rw [sz_eq t]; omega
mutual
def all : T → List T
 | .mk c g b s ks => .mk c g b s ks :: alls ks
def alls : List T → List T
 | [] => []
 | t :: ts => all t ++ alls ts
end
theorem all_eq (t : T) : t.all = t :: alls t.kids := by cases t; rw [all]; rfl
theorem alls_nil : alls [] = [] := by rw [alls]
theorem alls_cons {t : T} {ts : List T} : alls (t :: ts) = t.all ++ alls ts := by rw [alls]
theorem alls_append (a b : List T) : alls (a ++ b) = alls a ++ alls b := by
 induction a with
 | nil => simp [alls_nil]
 | cons x a ih => simp only [List.cons_append, alls_cons, ih, List.append_assoc]
theorem all_induct {P : T → Prop} (h : ∀ t, (∀ k ∈ t.kids, P k) → P t) : ∀ t, P t := by
 have key : ∀ n (t : T), t.sz ≤ n → P t := by
  intro n
  induction n with
  | zero => intro t ht; rw [sz_eq] at ht; omega
  | succ n ih => intro t ht; exact h t fun k hk => ih k (by have := kid_sz hk; omega)
 exact fun t => key _ t (Nat.le_refl _)
def wt (l : List T) : Nat := (l.map fun t => 5 + t.bytes.length).sum
theorem wt_alls (n : Nat) : ∀ (l : List T), szs l ≤ n → wt (alls l) = szs l := by
 induction n with
 | zero => intro l h; cases l with
   | nil => simp [alls_nil, szs_nil, wt]
   | cons t l => rw [szs_cons, sz_eq t] at h; omega
 | succ n ih => intro l h; cases l with
   | nil => simp [alls_nil, szs_nil, wt]
   | cons t l =>
     have e := sz_eq t
     rw [szs_cons] at h
     have h1 := ih t.kids (by omega)
     have h2 := ih l (by omega)
     rw [alls_cons, all_eq, szs_cons, e]
     unfold wt at h1 h2 ⊢
     simp only [List.cons_append, List.map_cons, List.map_append, List.sum_cons, List.sum_append] at h1 h2 ⊢
     rw [h1, h2]; omega
theorem wt_all (t : T) : wt t.all = t.sz := by
 have h := wt_alls _ t.kids (Nat.le_refl _)
 rw [all_eq, sz_eq]
 unfold wt at h ⊢
 rw [List.map_cons, List.sum_cons, h]
theorem all_len (t : T) : 5 * t.all.length ≤ t.sz := by
 rw [← wt_all]
 unfold wt
 generalize t.all = l
 induction l with
 | nil => simp
 | cons x l ih => simp only [List.length_cons, List.map_cons, List.sum_cons]; omega
end T
mutual
def nodeC : T → List Vm.Data
 | .mk c g b s ks => [.int .i64 c, .int .i64 g, .bool b, .lst (bytesD s), .lst (nodesD ks)]
def nodesD : List T → List (List Vm.Data)
 | [] => []
 | t :: ts => nodeC t :: nodesD ts
end
theorem nodeC_eq (t : T) : nodeC t = [.int .i64 t.cls, .int .i64 t.tag, .bool t.cons, .lst (bytesD t.bytes), .lst (nodesD t.kids)] := by cases t; rw [nodeC]; rfl
theorem nodesD_nil : nodesD [] = [] := by rw [nodesD]
theorem nodesD_cons (t : T) (l : List T) : nodesD (t :: l) = nodeC t :: nodesD l := by rw [nodesD]
theorem nodesD_map (l : List T) : nodesD l = l.map nodeC := by
 induction l with
 | nil => rw [nodesD_nil]; rfl
 | cons t l ih => rw [nodesD_cons, ih]; rfl
theorem nodesD_len (l : List T) : (nodesD l).length = l.length := by rw [nodesD_map]; simp
theorem nodesD_append (a b : List T) : nodesD a ++ nodesD b = nodesD (a ++ b) := by simp only [nodesD_map, List.map_append]
theorem nodesD_take (l : List T) (n : Nat) : (nodesD l).take n = nodesD (l.take n) := by simp only [nodesD_map, List.map_take]
theorem nodesD_drop (l : List T) (n : Nat) : (nodesD l).drop n = nodesD (l.drop n) := by simp only [nodesD_map, List.map_drop]
theorem nodesD_at {l : List T} {k : Nat} (h : k < l.length) : (nodesD l).getD k [] = [.int .i64 (l.getD k T.zero).cls, .int .i64 (l.getD k T.zero).tag, .bool (l.getD k T.zero).cons, .lst (bytesD (l.getD k T.zero).bytes), .lst (nodesD (l.getD k T.zero).kids)] := by
 rw [nodesD_map, List.getD_eq_getElem?_getD, List.getElem?_map, List.getElem?_eq_getElem h, List.getD_eq_getElem?_getD, List.getElem?_eq_getElem h]
 simp only [Option.map_some, Option.getD_some, nodeC_eq]
theorem nodesD_five (l : List T) : (∀ x ∈ nodesD l, x.length = 5) = True := by
 simp only [nodesD_map, List.mem_map, eq_iff_iff, iff_true]
 rintro x ⟨t, _, rfl⟩
 rw [nodeC_eq]; rfl
theorem nodes_inj (n : Nat) : ∀ (a b : List T), T.szs a ≤ n → nodesD a = nodesD b → a = b := by
 induction n with
 | zero =>
   intro a b ha h
   cases a with
   | cons t l => rw [T.szs_cons, T.sz_eq t] at ha; omega
   | nil => cases b with
     | nil => rfl
     | cons => rw [nodesD_nil, nodesD_cons] at h; cases h
 | succ n ih =>
   intro a b ha h
   cases a with
   | nil => cases b with
     | nil => rfl
     | cons => rw [nodesD_nil, nodesD_cons] at h; cases h
   | cons t l => cases b with
     | nil => rw [nodesD_nil, nodesD_cons] at h; cases h
     | cons u m =>
       rw [nodesD_cons, nodesD_cons] at h
       injection h with h1 h2
       rw [T.szs_cons, T.sz_eq t] at ha
       have hl := ih l m (by omega) h2
       cases t; cases u
       rw [nodeC, nodeC] at h1
       injection h1 with p1 h1; injection h1 with p2 h1; injection h1 with p3 h1; injection h1 with p4 h1; injection h1 with p5 h1
       injection p1 with _ p1; injection p2 with _ p2; injection p3 with p3; injection p4 with p4; injection p5 with p5
       have p4 := bytesD_inj.1 p4
       have p5 := ih _ _ (by simp only [T.kids_mk] at ha; omega) p5
       subst p1 p2 p3 p4 p5 hl; rfl
theorem nodesD_inj {a b : List T} : nodesD a = nodesD b ↔ a = b := ⟨nodes_inj _ a b (Nat.le_refl _), fun h => h ▸ rfl⟩
theorem nodeC_inj {a b : T} (h : nodeC a = nodeC b) : a = b := by
 have := nodesD_inj.1 (show nodesD [a] = nodesD [b] by rw [nodesD_cons, nodesD_cons, h])
 injection this
@[reducible] def ST : Sig := ⟨T, fun t => .agg (nodeC t), fun _ _ h => by injection h with h; exact nodeC_inj h⟩
@[reducible] def SL : Sig := ⟨List T, fun l => .lst (nodesD l), fun _ _ h => by injection h with h; exact nodesD_inj.1 h⟩
theorem ST_enc {t : T} : ST.enc t = .agg (nodeC t) := rfl
theorem ST_dec {c g : Int} {b : Bool} {s : List UInt8} {ks : List T} : ST.dec (.agg [.int .i64 c, .int .i64 g, .bool b, .lst (bytesD s), .lst (nodesD ks)]) = some (.mk c g b s ks) := by
 have := ST.dec_enc (T.mk c g b s ks)
 rwa [ST_enc, nodeC] at this
noncomputable def decN (xs : List (List Vm.Data)) : Option (List T) := by
 classical exact if h : ∃ l, nodesD l = xs then some (Classical.choose h) else none
theorem decN_nodes {l : List T} : decN (nodesD l) = some l := by
 have h : ∃ m, nodesD m = nodesD l := ⟨l, rfl⟩
 unfold decN
 rw [dif_pos h]
 exact congrArg some (nodesD_inj.1 (Classical.choose_spec h))
theorem decN_nil : decN [] = some [] := by rw [← nodesD_nil]; exact decN_nodes
theorem decN_some {xs : List (List Vm.Data)} {l : List T} (h : decN xs = some l) : nodesD l = xs := by
 unfold decN at h
 split at h
 ·rename_i h'
  simp only [Option.some.injEq] at h
  rw [← h]; exact Classical.choose_spec h'
 ·cases h
def consO (t : T) : Option (List T) → Option (List T)
 | some l => some (t :: l)
 | none => none
theorem consO_some {t : T} {l : List T} : consO t (some l) = some (t :: l) := rfl
theorem decN_cons {c g : Int} {b : Bool} {s : List UInt8} {ks : List T} {xs : List (List Vm.Data)} : decN ([.int .i64 c, .int .i64 g, .bool b, .lst (bytesD s), .lst (nodesD ks)] :: xs) = consO (.mk c g b s ks) (decN xs) := by
 cases hx : decN xs with
 | some l =>
   obtain rfl := decN_some hx
   rw [consO_some, ← nodeC, ← nodesD_cons, decN_nodes]
 | none =>
   unfold consO
   cases hy : decN ([.int .i64 c, .int .i64 g, .bool b, .lst (bytesD s), .lst (nodesD ks)] :: xs) with
   | none => rfl
   | some m =>
     exfalso
     have := decN_some hy
     cases m with
     | nil => rw [nodesD_nil] at this; cases this
     | cons u m =>
       rw [nodesD_cons] at this
       injection this with _ h2
       rw [← h2, decN_nodes] at hx; cases hx
theorem SL_dec {xs : List (List Vm.Data)} : SL.dec (.lst xs) = decN xs := by
 cases hx : decN xs with
 | some l =>
   obtain rfl := decN_some hx
   exact SL.dec_enc l
 | none =>
   cases hy : SL.dec (.lst xs) with
   | none => rfl
   | some m =>
     exfalso
     have this : Vm.Data.lst (nodesD m) = .lst xs := Sig.dec_some hy
     injection this with this
     have e := @decN_nodes m
     rw [this, hx] at e; cases e
noncomputable def apN {β : Type} (z : β) (ss : List Sig) (f : Fun (SL :: ss) β) (o : Option (List T)) (ds : List Vm.Data) : β :=
 match o with
 | some l => ap z ss (f l) ds
 | none => z
section
variable {β : Type} {z : β} {ss : List Sig} {ds : List Vm.Data}
theorem ap_ST {f : Fun (ST :: ss) β} {c g : Int} {b : Bool} {s : List UInt8} {ks : List T} : ap z (ST :: ss) f (.agg [.int .i64 c, .int .i64 g, .bool b, .lst (bytesD s), .lst (nodesD ks)] :: ds) = ap z ss (f (T.mk c g b s ks)) ds := by rw [ap_cons, ST_dec, apO_some]
theorem ap_ST1 {f : Fun (ST :: ss) β} {c g : Int} {b : Bool} {ks : List T} : ap z (ST :: ss) f (.agg [.int .i64 c, .int .i64 g, .bool b, .lst [], .lst (nodesD ks)] :: ds) = ap z ss (f (T.mk c g b [] ks)) ds := ap_ST (s := [])
theorem ap_ST2 {f : Fun (ST :: ss) β} {c g : Int} {b : Bool} {s : List UInt8} : ap z (ST :: ss) f (.agg [.int .i64 c, .int .i64 g, .bool b, .lst (bytesD s), .lst []] :: ds) = ap z ss (f (T.mk c g b s [])) ds := by
 have := ap_ST (z := z) (ss := ss) (f := f) (c := c) (g := g) (b := b) (s := s) (ks := []) (ds := ds)
 rwa [nodesD_nil] at this
theorem ap_ST3 {f : Fun (ST :: ss) β} {c g : Int} {b : Bool} : ap z (ST :: ss) f (.agg [.int .i64 c, .int .i64 g, .bool b, .lst [], .lst []] :: ds) = ap z ss (f (T.mk c g b [] [])) ds := ap_ST2 (s := [])
theorem ap_SL {f : Fun (SL :: ss) β} {xs : List (List Vm.Data)} : ap z (SL :: ss) f (.lst xs :: ds) = apN z ss f (decN xs) ds := by
 rw [ap_cons, SL_dec]
 cases decN xs <;> rfl
theorem apN_some {f : Fun (SL :: ss) β} {l : List T} : apN z ss f (some l) ds = ap z ss (f l) ds := rfl
end
def seqT (l : List T) : T := .mk 0 16 true [] l
def setT (l : List T) : T := .mk 0 17 true [] l
def inT (g : Int) (l : List T) : T := .mk 2 g true [] l
def primT (g : Int) (b : List UInt8) : T := .mk 0 g false b []
attribute [go_sem] T.cls_mk T.tag_mk T.cons_mk T.bytes_mk T.kids_mk T.eta nodeC_eq ST_enc ap_ST ap_ST1 ap_ST2 ap_ST3 ap_SL apN_some decN_nodes decN_nil decN_cons consO_some nodesD_len nodesD_five nodesD_take nodesD_drop nodesD_append
theorem trE : ∀ (l : List T) (k : Nat), k < l.length → (nodesD l).getD k [] = [.int .i64 (l.getD k T.zero).cls, .int .i64 (l.getD k T.zero).tag, .bool (l.getD k T.zero).cons, .lst (bytesD (l.getD k T.zero).bytes), .lst (nodesD (l.getD k T.zero).kids)] := fun _ _ h => nodesD_at h
end Go.Proofs.YtpajpkbipagjpaaGreatDoor.Tr
namespace Go.Proofs.YtpajpkbipagjpaaGreatDoor.Oc
open Go Go.RowKit Go.Proofs.YtpajpkbipagjpaaGreatDoor.Vm Go.Proofs.YtpajpkbipagjpaaGreatDoor.Tr Go.IntWalk
set_option maxRecDepth 100000
set_option maxHeartbeats 4000000
def knownP : List (List UInt8 × List UInt8) := [([115, 104, 97, 50, 50, 52], [50, 46, 49, 54, 46, 56, 52, 48, 46, 49, 46, 49, 48, 49, 46, 51, 46, 52, 46, 50, 46, 52]), ([115, 104, 97, 50, 53, 54], [50, 46, 49, 54, 46, 56, 52, 48, 46, 49, 46, 49, 48, 49, 46, 51, 46, 52, 46, 50, 46, 49]), ([115, 104, 97, 51, 56, 52], [50, 46, 49, 54, 46, 56, 52, 48, 46, 49, 46, 49, 48, 49, 46, 51, 46, 52, 46, 50, 46, 50]), ([115, 104, 97, 53, 49, 50], [50, 46, 49, 54, 46, 56, 52, 48, 46, 49, 46, 49, 48, 49, 46, 51, 46, 52, 46, 50, 46, 51]), ([114, 115, 97], [49, 46, 50, 46, 56, 52, 48, 46, 49, 49, 51, 53, 52, 57, 46, 49, 46, 49, 46, 49]), ([109, 103, 102, 49], [49, 46, 50, 46, 56, 52, 48, 46, 49, 49, 51, 53, 52, 57, 46, 49, 46, 49, 46, 56]), ([112, 115, 115], [49, 46, 50, 46, 56, 52, 48, 46, 49, 49, 51, 53, 52, 57, 46, 49, 46, 49, 46, 49, 48]), ([114, 115, 97, 50, 50, 52], [49, 46, 50, 46, 56, 52, 48, 46, 49, 49, 51, 53, 52, 57, 46, 49, 46, 49, 46, 49, 52]), ([114, 115, 97, 50, 53, 54], [49, 46, 50, 46, 56, 52, 48, 46, 49, 49, 51, 53, 52, 57, 46, 49, 46, 49, 46, 49, 49]), ([114, 115, 97, 51, 56, 52], [49, 46, 50, 46, 56, 52, 48, 46, 49, 49, 51, 53, 52, 57, 46, 49, 46, 49, 46, 49, 50]), ([114, 115, 97, 53, 49, 50], [49, 46, 50, 46, 56, 52, 48, 46, 49, 49, 51, 53, 52, 57, 46, 49, 46, 49, 46, 49, 51]), ([100, 97, 116, 97], [49, 46, 50, 46, 56, 52, 48, 46, 49, 49, 51, 53, 52, 57, 46, 49, 46, 55, 46, 49]), ([115, 105, 103, 110, 101, 100], [49, 46, 50, 46, 56, 52, 48, 46, 49, 49, 51, 53, 52, 57, 46, 49, 46, 55, 46, 50]), ([99, 111, 110, 116, 101, 110, 116, 84, 121, 112, 101], [49, 46, 50, 46, 56, 52, 48, 46, 49, 49, 51, 53, 52, 57, 46, 49, 46, 57, 46, 51]), ([109, 101, 115, 115, 97, 103, 101, 68, 105, 103, 101, 115, 116], [49, 46, 50, 46, 56, 52, 48, 46, 49, 49, 51, 53, 52, 57, 46, 49, 46, 57, 46, 52]), ([115, 105, 103, 110, 105, 110, 103, 84, 105, 109, 101], [49, 46, 50, 46, 56, 52, 48, 46, 49, 49, 51, 53, 52, 57, 46, 49, 46, 57, 46, 53]), ([99, 111, 117, 110, 116, 101, 114, 115, 105, 103, 110, 97, 116, 117, 114, 101], [49, 46, 50, 46, 56, 52, 48, 46, 49, 49, 51, 53, 52, 57, 46, 49, 46, 57, 46, 54]), ([116, 115, 116, 73, 110, 102, 111], [49, 46, 50, 46, 56, 52, 48, 46, 49, 49, 51, 53, 52, 57, 46, 49, 46, 57, 46, 49, 54, 46, 49, 46, 52]), ([115, 105, 103, 110, 105, 110, 103, 67, 101, 114, 116, 105, 102, 105, 99, 97, 116, 101, 86, 50], [49, 46, 50, 46, 56, 52, 48, 46, 49, 49, 51, 53, 52, 57, 46, 49, 46, 57, 46, 49, 54, 46, 50, 46, 52, 55]), ([99, 111, 109, 109, 111, 110, 78, 97, 109, 101], [50, 46, 53, 46, 52, 46, 51]), ([99, 111, 117, 110, 116, 114, 121, 78, 97, 109, 101], [50, 46, 53, 46, 52, 46, 54]), ([111, 114, 103, 97, 110, 105, 122, 97, 116, 105, 111, 110, 78, 97, 109, 101], [50, 46, 53, 46, 52, 46, 49, 48]), ([107, 101, 121, 85, 115, 97, 103, 101], [50, 46, 53, 46, 50, 57, 46, 49, 53]), ([98, 97, 115, 105, 99, 67, 111, 110, 115, 116, 114, 97, 105, 110, 116, 115], [50, 46, 53, 46, 50, 57, 46, 49, 57]), ([101, 120, 116, 75, 101, 121, 85, 115, 97, 103, 101], [50, 46, 53, 46, 50, 57, 46, 51, 55]), ([116, 105, 109, 101, 83, 116, 97, 109, 112, 105, 110, 103], [49, 46, 51, 46, 54, 46, 49, 46, 53, 46, 53, 46, 55, 46, 51, 46, 56])]
def knownCs (l : List (List UInt8 × List UInt8)) : List Vm.Data := l.flatMap fun x => [.str x.1, .str x.2]
def powD : List Vm.Data := (List.range 20).map fun j => .int .u64 ((10 ^ j : Nat) : Int)
def errD : Vm.Data := .iface 351 (.ptr [])
def sizesD : List Vm.Data := [.int .i64 0, .int .i64 224, .int .i64 256, .int .i64 384, .int .i64 512]
def fstU (i : Nat) : Nat := if i < 128 then 240 else if i < 194 then 241 else if i < 224 then 2 else if i = 224 then 19 else if i < 237 then 3 else if i = 237 then 35 else if i < 240 then 3 else if i = 240 then 52 else if i < 244 then 4 else if i = 244 then 68 else 241
def firstD : List Vm.Data := (List.range 256).map fun i => .int .u8 (fstU i : Int)
def acceptD : List Vm.Data := [.int .u8 128, .int .u8 191, .int .u8 160, .int .u8 191, .int .u8 128, .int .u8 159, .int .u8 144, .int .u8 191, .int .u8 128, .int .u8 143, .int .u8 0, .int .u8 0, .int .u8 0, .int .u8 0, .int .u8 0, .int .u8 0, .int .u8 0, .int .u8 0, .int .u8 0, .int .u8 0, .int .u8 0, .int .u8 0, .int .u8 0, .int .u8 0, .int .u8 0, .int .u8 0, .int .u8 0, .int .u8 0, .int .u8 0, .int .u8 0, .int .u8 0, .int .u8 0]
def kindsB : List (List UInt8) := [[], [99, 111, 109, 109, 111, 110, 78, 97, 109, 101], [111, 114, 103, 97, 110, 105, 122, 97, 116, 105, 111, 110, 78, 97, 109, 101], [99, 111, 117, 110, 116, 114, 121, 78, 97, 109, 101]]
def kindsD : List Vm.Data := kindsB.map .str
def Gl : Nat → Option (List Vm.Data)
 | 1 => some (knownCs knownP)
 | 2 => some sizesD
 | 3 => some [errD]
 | 4 => some [errD]
 | 5 => some powD
 | 6 => some firstD
 | 7 => some acceptD
 | _ => none
def Gl1 : Nat → Option (List Vm.Data)
 | 0 => some kindsD
 | n => Gl n
noncomputable def E : Env := ⟨Tryz.prog, Gl⟩
noncomputable def E1 : Env := ⟨Tryz.prog, Gl1⟩
@[go_sem] theorem E_P : E.P = Tryz.prog ∧ E1.P = Tryz.prog := ⟨rfl, rfl⟩
@[go_sem] theorem E_G : E.G 1 = some (knownCs knownP) ∧ E.G 2 = some sizesD ∧ E.G 3 = some [errD] ∧ E.G 4 = some [errD] ∧ E.G 5 = some powD ∧ E.G 6 = some firstD ∧ E.G 7 = some acceptD ∧ E1.G 0 = some kindsD := ⟨rfl, rfl, rfl, rfl, rfl, rfl, rfl, rfl⟩
theorem glob1 {w : World} {J : Cset} (h : Glob E1 w J) : Glob E w J := fun g cs hg => h g cs (by
 show Gl1 g = some cs
 have hg' : Gl g = some cs := hg
 match g, hg' with
 | 0, h => cases h
 | n + 1, h => exact h)
theorem lift1 {f : Nat} {p : PFn} (h : Pure E f p) : Pure E1 f p := fun w J args ds hJ hG => h w J args ds hJ (glob1 hG)
theorem tmodn {a b : Int} (h : 0 ≤ a) : a.tmod b = a % b := Int.tmod_eq_emod_of_nonneg h
theorem tdivn {a b : Int} (h : 0 ≤ a) : a.tdiv b = a / b := Int.tdiv_eq_ediv_of_nonneg h
@[go_sem] theorem k2 : kindT Tryz.prog 2 = .int .i64 ∧ szT Tryz.prog 2 = 1 ∧ posT Tryz.prog 2 = true ∧ bytesT Tryz.prog 2 = 8 := ⟨by kernel_rfl, by kernel_rfl, by kernel_rfl, by kernel_rfl⟩
@[go_sem] theorem k3 : kindT Tryz.prog 3 = .int .i64 ∧ szT Tryz.prog 3 = 1 ∧ posT Tryz.prog 3 = true ∧ bytesT Tryz.prog 3 = 8 := ⟨by kernel_rfl, by kernel_rfl, by kernel_rfl, by kernel_rfl⟩
@[go_sem] theorem k4 : kindT Tryz.prog 4 = .bool ∧ szT Tryz.prog 4 = 1 ∧ posT Tryz.prog 4 = true ∧ bytesT Tryz.prog 4 = 1 := ⟨by kernel_rfl, by kernel_rfl, by kernel_rfl, by kernel_rfl⟩
@[go_sem] theorem k5 : kindT Tryz.prog 5 = .int .u8 ∧ szT Tryz.prog 5 = 1 ∧ posT Tryz.prog 5 = true ∧ bytesT Tryz.prog 5 = 1 := ⟨by kernel_rfl, by kernel_rfl, by kernel_rfl, by kernel_rfl⟩
@[go_sem] theorem k9 : kindT Tryz.prog 9 = .str ∧ szT Tryz.prog 9 = 1 ∧ posT Tryz.prog 9 = true ∧ bytesT Tryz.prog 9 = 16 := ⟨by kernel_rfl, by kernel_rfl, by kernel_rfl, by kernel_rfl⟩
@[go_sem] theorem k12 : kindT Tryz.prog 12 = .int .u64 ∧ szT Tryz.prog 12 = 1 ∧ posT Tryz.prog 12 = true ∧ bytesT Tryz.prog 12 = 8 := ⟨by kernel_rfl, by kernel_rfl, by kernel_rfl, by kernel_rfl⟩
@[go_sem] theorem k22 : kindT Tryz.prog 22 = .slice 5 ∧ szT Tryz.prog 22 = 1 ∧ posT Tryz.prog 22 = true ∧ bytesT Tryz.prog 22 = 24 := ⟨by kernel_rfl, by kernel_rfl, by kernel_rfl, by kernel_rfl⟩
@[go_sem] theorem k23 : kindT Tryz.prog 23 = .slice 25 ∧ szT Tryz.prog 23 = 1 ∧ posT Tryz.prog 23 = true ∧ bytesT Tryz.prog 23 = 24 := ⟨by kernel_rfl, by kernel_rfl, by kernel_rfl, by kernel_rfl⟩
@[go_sem] theorem k25 : kindT Tryz.prog 25 = .struct [(0, 3), (1, 3), (2, 4), (3, 22), (4, 23)] ∧ szT Tryz.prog 25 = 5 ∧ posT Tryz.prog 25 = true ∧ bytesT Tryz.prog 25 = 72 := ⟨by kernel_rfl, by kernel_rfl, by kernel_rfl, by kernel_rfl⟩
@[go_sem] theorem k27 : kindT Tryz.prog 27 = .int .i64 ∧ szT Tryz.prog 27 = 1 ∧ posT Tryz.prog 27 = true ∧ bytesT Tryz.prog 27 = 8 := ⟨by kernel_rfl, by kernel_rfl, by kernel_rfl, by kernel_rfl⟩
@[go_sem] theorem k30 : kindT Tryz.prog 30 = .int .i64 ∧ szT Tryz.prog 30 = 1 ∧ posT Tryz.prog 30 = true ∧ bytesT Tryz.prog 30 = 8 := ⟨by kernel_rfl, by kernel_rfl, by kernel_rfl, by kernel_rfl⟩
@[go_sem] theorem k34 : kindT Tryz.prog 34 = .int .i64 ∧ szT Tryz.prog 34 = 1 ∧ posT Tryz.prog 34 = true ∧ bytesT Tryz.prog 34 = 8 := ⟨by kernel_rfl, by kernel_rfl, by kernel_rfl, by kernel_rfl⟩
@[go_sem] theorem k48 : kindT Tryz.prog 48 = .slice 52 ∧ szT Tryz.prog 48 = 1 ∧ posT Tryz.prog 48 = true ∧ bytesT Tryz.prog 48 = 24 := ⟨by kernel_rfl, by kernel_rfl, by kernel_rfl, by kernel_rfl⟩
@[go_sem] theorem k50 : kindT Tryz.prog 50 = .struct [(0, 30), (1, 4), (2, 22)] ∧ szT Tryz.prog 50 = 3 ∧ posT Tryz.prog 50 = true ∧ bytesT Tryz.prog 50 = 40 := ⟨by kernel_rfl, by kernel_rfl, by kernel_rfl, by kernel_rfl⟩
@[go_sem] theorem k52 : kindT Tryz.prog 52 = .struct [(0, 3), (1, 9), (2, 4)] ∧ szT Tryz.prog 52 = 3 ∧ posT Tryz.prog 52 = true ∧ bytesT Tryz.prog 52 = 32 := ⟨by kernel_rfl, by kernel_rfl, by kernel_rfl, by kernel_rfl⟩
@[go_sem] theorem k111 : kindT Tryz.prog 111 = .slice 9 ∧ szT Tryz.prog 111 = 1 ∧ posT Tryz.prog 111 = true ∧ bytesT Tryz.prog 111 = 24 := ⟨by kernel_rfl, by kernel_rfl, by kernel_rfl, by kernel_rfl⟩
@[go_sem] theorem k123 : kindT Tryz.prog 123 = .arr 4 9 ∧ szT Tryz.prog 123 = 4 ∧ posT Tryz.prog 123 = true ∧ bytesT Tryz.prog 123 = 64 := ⟨by kernel_rfl, by kernel_rfl, by kernel_rfl, by kernel_rfl⟩
@[go_sem] theorem k143 : kindT Tryz.prog 143 = .ptr ∧ szT Tryz.prog 143 = 1 ∧ posT Tryz.prog 143 = true ∧ bytesT Tryz.prog 143 = 8 := ⟨by kernel_rfl, by kernel_rfl, by kernel_rfl, by kernel_rfl⟩
@[go_sem] theorem k149 : kindT Tryz.prog 149 = .arr 2 9 ∧ szT Tryz.prog 149 = 2 ∧ posT Tryz.prog 149 = true ∧ bytesT Tryz.prog 149 = 32 := ⟨by kernel_rfl, by kernel_rfl, by kernel_rfl, by kernel_rfl⟩
@[go_sem] theorem k150 : kindT Tryz.prog 150 = .arr 26 149 ∧ szT Tryz.prog 150 = 52 ∧ posT Tryz.prog 150 = true ∧ bytesT Tryz.prog 150 = 832 := ⟨by kernel_rfl, by kernel_rfl, by kernel_rfl, by kernel_rfl⟩
@[go_sem] theorem k151 : kindT Tryz.prog 151 = .slice 158 ∧ szT Tryz.prog 151 = 1 ∧ posT Tryz.prog 151 = true ∧ bytesT Tryz.prog 151 = 24 := ⟨by kernel_rfl, by kernel_rfl, by kernel_rfl, by kernel_rfl⟩
@[go_sem] theorem k158 : kindT Tryz.prog 158 = .int .u64 ∧ szT Tryz.prog 158 = 1 ∧ posT Tryz.prog 158 = true ∧ bytesT Tryz.prog 158 = 8 := ⟨by kernel_rfl, by kernel_rfl, by kernel_rfl, by kernel_rfl⟩
@[go_sem] theorem k159 : kindT Tryz.prog 159 = .func ∧ szT Tryz.prog 159 = 1 ∧ posT Tryz.prog 159 = true ∧ bytesT Tryz.prog 159 = 8 := ⟨by kernel_rfl, by kernel_rfl, by kernel_rfl, by kernel_rfl⟩
@[go_sem] theorem k161 : kindT Tryz.prog 161 = .struct [(0, 23)] ∧ szT Tryz.prog 161 = 1 ∧ posT Tryz.prog 161 = true ∧ bytesT Tryz.prog 161 = 24 := ⟨by kernel_rfl, by kernel_rfl, by kernel_rfl, by kernel_rfl⟩
@[go_sem] theorem k198 : kindT Tryz.prog 198 = .iface ∧ szT Tryz.prog 198 = 1 ∧ posT Tryz.prog 198 = true ∧ bytesT Tryz.prog 198 = 16 := ⟨by kernel_rfl, by kernel_rfl, by kernel_rfl, by kernel_rfl⟩
@[go_sem] theorem k212 : kindT Tryz.prog 212 = .arr 5 3 ∧ szT Tryz.prog 212 = 5 ∧ posT Tryz.prog 212 = true ∧ bytesT Tryz.prog 212 = 40 := ⟨by kernel_rfl, by kernel_rfl, by kernel_rfl, by kernel_rfl⟩
@[go_sem] theorem k328 : kindT Tryz.prog 328 = .func ∧ szT Tryz.prog 328 = 1 ∧ posT Tryz.prog 328 = true ∧ bytesT Tryz.prog 328 = 8 := ⟨by kernel_rfl, by kernel_rfl, by kernel_rfl, by kernel_rfl⟩
@[go_sem] theorem k347 : kindT Tryz.prog 347 = .arr 256 5 ∧ szT Tryz.prog 347 = 256 ∧ posT Tryz.prog 347 = true ∧ bytesT Tryz.prog 347 = 256 := ⟨by kernel_rfl, by kernel_rfl, by kernel_rfl, by kernel_rfl⟩
@[go_sem] theorem k349 : kindT Tryz.prog 349 = .struct [(0, 5), (1, 5)] ∧ szT Tryz.prog 349 = 2 ∧ posT Tryz.prog 349 = true ∧ bytesT Tryz.prog 349 = 2 := ⟨by kernel_rfl, by kernel_rfl, by kernel_rfl, by kernel_rfl⟩
@[go_sem] theorem k350 : kindT Tryz.prog 350 = .arr 16 349 ∧ szT Tryz.prog 350 = 32 ∧ posT Tryz.prog 350 = true ∧ bytesT Tryz.prog 350 = 32 := ⟨by kernel_rfl, by kernel_rfl, by kernel_rfl, by kernel_rfl⟩
@[go_sem] theorem z2 : zeroT Tryz.prog 2 = some [.dat (.int .i64 0)] := by kernel_rfl
@[go_sem] theorem z3 : zeroT Tryz.prog 3 = some [.dat (.int .i64 0)] := by kernel_rfl
@[go_sem] theorem z4 : zeroT Tryz.prog 4 = some [.dat (.bool false)] := by kernel_rfl
@[go_sem] theorem z25 : zeroT Tryz.prog 25 = some [.dat (.int .i64 0), .dat (.int .i64 0), .dat (.bool false), .nilsl, .nilsl] := by kernel_rfl
@[go_sem] theorem z27 : zeroT Tryz.prog 27 = some [.dat (.int .i64 0)] := by kernel_rfl
@[go_sem] theorem z30 : zeroT Tryz.prog 30 = some [.dat (.int .i64 0)] := by kernel_rfl
@[go_sem] theorem z34 : zeroT Tryz.prog 34 = some [.dat (.int .i64 0)] := by kernel_rfl
@[go_sem] theorem z50 : zeroT Tryz.prog 50 = some [.dat (.int .i64 0), .dat (.bool false), .nilsl] := by kernel_rfl
@[go_sem] theorem z52 : zeroT Tryz.prog 52 = some [.dat (.int .i64 0), .dat (.str []), .dat (.bool false)] := by kernel_rfl
@[go_sem] theorem z149 : zeroT Tryz.prog 149 = some [.dat (.str []), .dat (.str [])] := by kernel_rfl
@[go_sem] theorem z161 : zeroT Tryz.prog 161 = some [.nilsl] := by kernel_rfl
@[go_sem] theorem z296 : zeroT Tryz.prog 296 = some [.dat (.int .u8 0), .dat (.int .u8 0), .dat (.int .u8 0), .dat (.int .u8 0), .dat (.int .u8 0), .dat (.int .u8 0), .dat (.int .u8 0), .dat (.int .u8 0), .dat (.int .u8 0), .dat (.int .u8 0), .dat (.int .u8 0), .dat (.int .u8 0), .dat (.int .u8 0), .dat (.int .u8 0), .dat (.int .u8 0), .dat (.int .u8 0), .dat (.int .u8 0), .dat (.int .u8 0), .dat (.int .u8 0), .dat (.int .u8 0), .dat (.int .u8 0), .dat (.int .u8 0), .dat (.int .u8 0), .dat (.int .u8 0)] := by kernel_rfl
@[go_sem] theorem z349 : zeroT Tryz.prog 349 = some [.dat (.int .u8 0), .dat (.int .u8 0)] := by kernel_rfl
@[go_sem] theorem z22 : zeroT Tryz.prog 22 = some [.nilsl] := by kernel_rfl
@[go_sem] theorem z151 : zeroT Tryz.prog 151 = some [.nilsl] := by kernel_rfl
@[go_sem] theorem z5 : zeroT Tryz.prog 5 = some [.dat (.int .u8 0)] := by kernel_rfl
@[go_sem] theorem z158 : zeroT Tryz.prog 158 = some [.dat (.int .u64 0)] := by kernel_rfl
@[go_sem] theorem z9 : zeroT Tryz.prog 9 = some [.dat (.str [])] := by kernel_rfl
@[go_sem] theorem e22 : elemT Tryz.prog 22 = some (5, 1) := by kernel_rfl
@[go_sem] theorem e23 : elemT Tryz.prog 23 = some (25, 5) := by kernel_rfl
@[go_sem] theorem e48 : elemT Tryz.prog 48 = some (52, 3) := by kernel_rfl
@[go_sem] theorem e111 : elemT Tryz.prog 111 = some (9, 1) := by kernel_rfl
@[go_sem] theorem e151 : elemT Tryz.prog 151 = some (158, 1) := by kernel_rfl
@[go_sem] theorem q52 : structEqOK Tryz.prog 52 = true := by kernel_rfl
end Go.Proofs.YtpajpkbipagjpaaGreatDoor.Oc
namespace Go.Proofs.YtpajpkbipagjpaaGreatDoor.Oc
open Go Go.RowKit Go.Proofs.YtpajpkbipagjpaaGreatDoor.Vm Go.Proofs.YtpajpkbipagjpaaGreatDoor.Tr Go.IntWalk
set_option maxRecDepth 100000
set_option maxHeartbeats 4000000
@[go_sem] noncomputable def bclO : OFn := OF [SY] (fun (b : List UInt8) => b.length ≤ 100000000) 5 1 (fun (b : List UInt8) => bytesD b) (fun (b : List UInt8) => [])
@[go_sem] noncomputable def bclF : PFn := bclO.shut
theorem bcl_own : Own E 88 bclO := Own.of_sig (rs := [.tmp 2]) (n := 8) Tryz.func88 rfl rfl rfl (Nat.le_of_ble_eq_true rfl) (by
 intro (b : List UInt8) hds
 refine st0 ?_
 refine rg sound_nil [0] trivial ?_
 refine rB sound_nil [0, 4] trivial fun K' hK => ?_
 repeat' first | (refine lf hK trivial ?_; clear hK K') | with_reducible apply And.intro | refine sA trivial (fun _ => ?_) fun _ => ?_ | refine sAb trivial (fun _ => ?_) fun _ => ?_ | refine sAl trivial (fun g => ?_) fun g => ?_ | exact sd | exact sde trivial | exact sdp trivial | refine stk trivial ?_ | fail
 all_goals
  refine cn ?_ ?_
  ·intro h; try exact nd h
   all_goals
    refine rg sound_nil [2] trivial ?_
    exact fz trivial
  ·intro h; try exact nd h
   all_goals
    refine rg sound_nil [2] trivial ?_
    exact fz trivial)
theorem bcl_ok : Pure E 88 bclF := bcl_own.pure
@[go_sem] noncomputable def nclO : OFn := OF [SL] (fun (l : List T) => l.length ≤ 100000000) 25 5 (fun (l : List T) => nodesD l) (fun (l : List T) => [])
theorem ncl_own : Own E 159 nclO := Own.of_sig (rs := [.tmp 2]) (n := 8) Tryz.func159 rfl rfl rfl (Nat.le_of_ble_eq_true rfl) (by
 intro (l : List T) hds
 refine st0 ?_
 refine rg sound_nil [0] trivial ?_
 refine rB sound_nil [0, 4] trivial fun K' hK => ?_
 repeat' first | (refine lf hK trivial ?_; clear hK K') | with_reducible apply And.intro | refine sA trivial (fun _ => ?_) fun _ => ?_ | refine sAb trivial (fun _ => ?_) fun _ => ?_ | refine sAl trivial (fun g => ?_) fun g => ?_ | exact sd | exact sde trivial | exact sdp trivial | refine stk trivial ?_ | fail
 all_goals
  refine cn ?_ ?_
  ·intro h; try exact nd h
   all_goals
    refine rg sound_nil [2] trivial ?_
    exact fz trivial
  ·intro h; try exact nd h
   all_goals
    refine rg sound_nil [2] trivial ?_
    exact fz trivial)
end Go.Proofs.YtpajpkbipagjpaaGreatDoor.Oc
namespace Go.Proofs.YtpajpkbipagjpaaGreatDoor.Oc
open Go Go.RowKit Go.Proofs.YtpajpkbipagjpaaGreatDoor.Vm Go.Proofs.YtpajpkbipagjpaaGreatDoor.Tr Go.IntWalk
set_option maxRecDepth 100000
set_option maxHeartbeats 4000000
theorem kid_lt {t : T} {i : Nat} (h : i < t.kids.length) : (t.kids.getD i T.zero).sz < t.sz := by
 rw [List.getD_eq_getElem?_getD, List.getElem?_eq_getElem h]
 exact T.kid_sz (List.getElem_mem h)
theorem kids_len (t : T) : 5 * t.kids.length + 5 + t.bytes.length ≤ t.sz := by
 have := T.szs_len t.kids
 rw [T.sz_eq]; omega
theorem nodes_set {l : List T} {i : Nat} (h : i < l.length) : (nodesD l).set i [.int .i64 (l.getD i T.zero).cls, .int .i64 (l.getD i T.zero).tag, .bool (l.getD i T.zero).cons, .lst (bytesD (l.getD i T.zero).bytes), .lst (nodesD (l.getD i T.zero).kids)] = nodesD l := by
 rw [← nodesD_at h]
 apply List.ext_getElem?
 intro j
 rw [List.getElem?_set]
 by_cases e : i = j
 ·subst e
  have : i < (nodesD l).length := by rw [nodesD_len]; exact h
  rw [if_pos rfl, if_pos this, List.getD_eq_getElem?_getD, List.getElem?_eq_getElem this]; rfl
 ·rw [if_neg e]
theorem trS : (∀ (l : List T) (i : Nat), i < l.length → (nodesD l).set i [.int .i64 (l.getD i T.zero).cls, .int .i64 (l.getD i T.zero).tag, .bool (l.getD i T.zero).cons, .lst (bytesD (l.getD i T.zero).bytes), .lst (nodesD (l.getD i T.zero).kids)] = nodesD l) := fun _ _ h => nodes_set h
def nodeD (t : T) : Vm.Data := .agg (nodeC t)
attribute [go_sem] nodeD
@[go_sem] noncomputable def copyF (n : Nat) : PFn := PF [ST] (fun (t : T) => t.sz < n ∧ t.sz ≤ 100000000) (fun (t : T) => [nodeD t])
noncomputable def ΦC (m : Nat) : Fns := tab [(88, bclF), (117, copyF m)]
theorem ΦC_ok {m : Nat} (h : Pure E 117 (copyF m)) : Sound E (ΦC m) := sound_cons (by kernel_rfl) bcl_ok (sound_cons (by kernel_rfl) h sound_nil)
@[go_sem] theorem ΦC_c : callable Tryz.prog 159 = true := by kernel_rfl
@[go_sem] theorem ΦC_r (m : Nat) : ΦC m 88 = some bclF ∧ ΦC m 117 = some (copyF m) ∧ ΦC m 159 = none := ⟨rfl, rfl, rfl⟩
theorem copy_ok (n : Nat) : Pure E 117 (copyF n) := by
 induction n using Nat.strongRecOn with
 | _ n ih =>
 exact Pure.of_sig (rs := [.cell 2 25]) (n := 29) Tryz.func117 rfl rfl rfl (Nat.le_of_ble_eq_true rfl) (by
  intro (t : T) hds
  have hkl := kids_len t
  have hΦ := ΦC_ok (ih (t.sz) (by omega))
  refine st0 ?_
  refine rg hΦ [1, 2] trE ?_
  refine rF (n := 5) hΦ [6, 8] [1, 2] trE fun L hL => ?_
  repeat' first | refine lfF hL trE fun K' hK => ?_ | with_reducible apply And.intro | exact sd | exact sde trE | exact sdp trE | refine stk trE ?_ | fail
  repeat' first | with_reducible apply And.intro | exact sd | exact sde trE | exact sdp trE | refine stk trE ?_ | fail
  refine oc ncl_own 3 trE ?_
  repeat' first | (refine lf hK trE ?_; clear hK K') | with_reducible apply And.intro | exact sd | exact sde trE | exact sdp trE | refine stk trE ?_ | fail
  refine rg hΦ [1, 2, 14, 15, 16] trE ?_
  refine nx ?_
  refine VC.loopP (ι := Nat) [1, 2, 14, 15] (fun i => [(16, .dat (.int .i64 (i : Int)))]) (fun _ => [(1, .cells [.dat (.int .i64 t.cls), .dat (.int .i64 t.tag), .dat (.bool t.cons), .dat (.lst (bytesD t.bytes)), .sl 3 0 t.kids.length] false), (2, .cells [.dat (.int .i64 0), .dat (.int .i64 0), .dat (.bool false), .nilsl, .nilsl] false), (3, .arr 25 5 (nodesD t.kids) 0)]) (fun i => i ≤ t.kids.length) (fun i => t.kids.length - i) 0 (by omega) (et) ?_
  rintro i hp; try dsimp only at hp
  refine st0 ?_
  refine rg hΦ [1, 2, 14, 15, 16, 17] trE ?_
  refine cn ?_ ?_
  ·intro h; try exact nd h
   all_goals
    have hk := kid_lt (t := t) (i := i) (by omega)
    refine rg hΦ [1, 2, 3, 4, 14, 15, 16] trE ?_
    refine rdL hΦ 6 trE ?_
    refine rgL hΦ trE ?_
    refine nx ?_
    exact ⟨i + 1, by omega, ete (And.intro trE trS), by omega⟩
  ·intro h; try exact nd h
   all_goals
    refine rg hΦ [2] trE ?_
    exact fz trE)
end Go.Proofs.YtpajpkbipagjpaaGreatDoor.Oc
namespace Go.Proofs.YtpajpkbipagjpaaGreatDoor.Oc
open Go Go.RowKit Go.Proofs.YtpajpkbipagjpaaGreatDoor.Vm Go.Proofs.YtpajpkbipagjpaaGreatDoor.Tr Go.IntWalk
set_option maxRecDepth 100000
set_option maxHeartbeats 4000000
@[go_sem] noncomputable def copy0F : PFn := copyF 100000001
theorem copy0_ok : Pure E 117 copy0F := copy_ok 100000001
theorem sz_seq (l : List T) : (seqT l).sz = 5 + T.szs l := by unfold seqT; rw [T.sz_mk]; simp
theorem sz_set (l : List T) : (setT l).sz = 5 + T.szs l := by unfold setT; rw [T.sz_mk]; simp
theorem sz_in (g : Int) (l : List T) : (inT g l).sz = 5 + T.szs l := by unfold inT; rw [T.sz_mk]; simp
theorem sz_prim (g : Int) (b : List UInt8) : (primT g b).sz = 5 + b.length := by unfold primT; rw [T.sz_mk, T.szs_nil]; rfl
theorem szE : (∀ (c g : Int) (b : Bool) (s : List UInt8) (ks : List T), (T.mk c g b s ks).sz = 5 + s.length + T.szs ks) ∧ T.szs [] = 0 ∧ (∀ (t : T) (l : List T), T.szs (t :: l) = t.sz + T.szs l) ∧ (∀ (l : List T), (seqT l).sz = 5 + T.szs l) ∧
 (∀ (l : List T), (setT l).sz = 5 + T.szs l) ∧ (∀ (g : Int) (l : List T), (inT g l).sz = 5 + T.szs l) ∧ (∀ (g : Int) (b : List UInt8), (primT g b).sz = 5 + b.length) :=
 ⟨fun _ _ _ _ _ => T.sz_mk, T.szs_nil, fun _ _ => T.szs_cons, sz_seq, sz_set, sz_in, sz_prim⟩
noncomputable def Φcons : Fns := tab [(117, copy0F)]
theorem Φcons_ok : Sound E Φcons := sound_cons (by kernel_rfl) copy0_ok (sound_nil)
@[go_sem] theorem Φcons_r : Φcons 117 = some copy0F := rfl
@[go_sem] noncomputable def consF : PFn := PF [SI .i64, SI .i64, SL] (fun (c : Int) (g : Int) (l : List T) => T.szs l ≤ 90000000) (fun (c : Int) (g : Int) (l : List T) => [nodeD (.mk c g true [] l)])
theorem cons_ok : Pure E 79 consF := Pure.of_sig (rs := [.cell 6 25]) (n := 12) Tryz.func79 rfl rfl rfl (Nat.le_of_ble_eq_true rfl) (by
 intro (c : Int) (g : Int) (l : List T) hds
 refine st0 ?_
 refine rg Φcons_ok [0, 1, 2, 6] szE ?_
 refine rg Φcons_ok [6] szE ?_
 exact fz szE)
noncomputable def Φprim : Fns := tab [(88, bclF)]
theorem Φprim_ok : Sound E Φprim := sound_cons (by kernel_rfl) bcl_ok (sound_nil)
@[go_sem] theorem Φprim_r : Φprim 88 = some bclF := rfl
@[go_sem] noncomputable def primF : PFn := PF [SI .i64, SI .i64, SY] (fun (c : Int) (g : Int) (b : List UInt8) => b.length ≤ 100000000) (fun (c : Int) (g : Int) (b : List UInt8) => [nodeD (.mk c g false b [])])
theorem prim_ok : Pure E 109 primF := Pure.of_sig (rs := [.cell 6 25]) (n := 12) Tryz.func109 rfl rfl rfl (Nat.le_of_ble_eq_true rfl) (by
 intro (c : Int) (g : Int) (b : List UInt8) hds
 refine st0 ?_
 refine rg Φprim_ok [0, 1, 2, 6] trivial ?_
 refine rg Φprim_ok [6] trivial ?_
 exact fz trivial)
noncomputable def Φcseq : Fns := tab [(79, consF)]
theorem Φcseq_ok : Sound E Φcseq := sound_cons (by kernel_rfl) cons_ok (sound_nil)
@[go_sem] theorem Φcseq_r : Φcseq 79 = some consF := rfl
@[go_sem] noncomputable def cseqF : PFn := PF [SL] (fun (l : List T) => T.szs l ≤ 90000000) (fun (l : List T) => [nodeD (seqT l)])
theorem cseq_ok : Pure E 62 cseqF := Pure.of_sig (rs := [.cell 2 25]) (n := 5) Tryz.func62 rfl rfl rfl (Nat.le_of_ble_eq_true rfl) (by
 intro (l : List T) hds
 refine st0 ?_
 refine rg Φcseq_ok [0, 2] trivial ?_
 refine rg Φcseq_ok [2] trivial ?_
 exact fz trivial)
noncomputable def Φcprim : Fns := tab [(109, primF)]
theorem Φcprim_ok : Sound E Φcprim := sound_cons (by kernel_rfl) prim_ok (sound_nil)
@[go_sem] theorem Φcprim_r : Φcprim 109 = some primF := rfl
@[go_sem] noncomputable def cprimF : PFn := PF [SI .i64, SY] (fun (g : Int) (b : List UInt8) => b.length ≤ 100000000) (fun (g : Int) (b : List UInt8) => [nodeD (primT g b)])
theorem cprim_ok : Pure E 61 cprimF := Pure.of_sig (rs := [.cell 4 25]) (n := 8) Tryz.func61 rfl rfl rfl (Nat.le_of_ble_eq_true rfl) (by
 intro (g : Int) (b : List UInt8) hds
 refine st0 ?_
 refine rg Φcprim_ok [0, 1, 4] trivial ?_
 refine rg Φcprim_ok [4] trivial ?_
 exact fz trivial)
noncomputable def Φcin : Fns := tab [(79, consF)]
theorem Φcin_ok : Sound E Φcin := sound_cons (by kernel_rfl) cons_ok (sound_nil)
@[go_sem] theorem Φcin_r : Φcin 79 = some consF := rfl
@[go_sem] noncomputable def cinF : PFn := PF [SI .i64, SL] (fun (g : Int) (l : List T) => T.szs l ≤ 90000000) (fun (g : Int) (l : List T) => [nodeD (inT g l)])
theorem cin_ok : Pure E 68 cinF := Pure.of_sig (rs := [.cell 4 25]) (n := 8) Tryz.func68 rfl rfl rfl (Nat.le_of_ble_eq_true rfl) (by
 intro (g : Int) (l : List T) hds
 refine st0 ?_
 refine rg Φcin_ok [0, 1, 4] trivial ?_
 refine rg Φcin_ok [4] trivial ?_
 exact fz trivial)
end Go.Proofs.YtpajpkbipagjpaaGreatDoor.Oc
namespace Go.Proofs.YtpajpkbipagjpaaGreatDoor.Oc
open Go Go.RowKit Go.Proofs.YtpajpkbipagjpaaGreatDoor.Vm Go.Proofs.YtpajpkbipagjpaaGreatDoor.Tr Go.IntWalk
set_option maxRecDepth 100000
set_option maxHeartbeats 4000000
theorem take_eq_next {a b : List UInt8} {i : Nat} (h : a.take i = b.take i) (ha : i < a.length) (hb : i < b.length) (e : a.getD i 0 = b.getD i 0) : a.take (i + 1) = b.take (i + 1) := by
 rw [List.take_add_one, List.take_add_one, h, List.getElem?_eq_getElem ha, List.getElem?_eq_getElem hb]
 simp only [List.getD_eq_getElem?_getD, List.getElem?_eq_getElem ha, List.getElem?_eq_getElem hb, Option.getD_some] at e
 rw [e]
theorem u8_nat {x y : UInt8} : ((x.toNat : Int) = (y.toNat : Int)) ↔ x = y := by
 rw [Int.natCast_inj]
 exact ⟨fun h => UInt8.toNat_inj.1 h, fun h => h ▸ rfl⟩
attribute [go_sem] u8_nat
@[go_sem] noncomputable def beqF : PFn := PF [SY, SY] (fun (a : List UInt8) (b : List UInt8) => a.length ≤ 4611686018427387904) (fun (a : List UInt8) (b : List UInt8) => [.bool (decide (a = b))])
theorem beq_ok : Pure E 103 beqF := Pure.of_sig (rs := [.tmp 4]) (n := 26) Tryz.func103 rfl rfl rfl (Nat.le_of_ble_eq_true rfl) (by
 intro (a : List UInt8) (b : List UInt8) hds
 refine st0 ?_
 refine rg sound_nil [0, 1] trivial ?_
 refine rg sound_nil [0, 1, 10] trivial ?_
 refine cn ?_ ?_
 ·intro h; try exact nd h
  all_goals
   refine rg sound_nil [4] trivial ?_
   refine fi trivial ?_
   first
    | exact (decide_eq_false (fun e => by subst e; first | omega | exact h rfl | (simp_all; done))).symm
    | exact (decide_eq_true (by rw [show i = a.length from (by omega), List.take_length, hl, List.take_length] at ht; exact ht)).symm
 ·intro h; try exact nd h
  all_goals
   refine rg sound_nil [0, 1, 12, 13] trivial ?_
   refine nx ?_
   refine VC.loopP (ι := Nat) [0, 1, 12] (fun i => [(13, .dat (.int .i64 (i : Int)))]) (fun _ => []) (fun i => i ≤ a.length ∧ a.length = b.length ∧ a.take i = b.take i) (fun i => a.length - i) 0 (⟨Nat.zero_le _, by omega, rfl⟩) (et) ?_
   rintro i hp; try dsimp only at hp
   obtain ⟨hi, hl, ht⟩ := hp
   refine st0 ?_
   refine rg sound_nil [0, 1, 12, 13, 14] trivial ?_
   refine cn ?_ ?_
   ·intro h; try exact nd h
    all_goals
     refine rg sound_nil [0, 1, 5, 12, 13] trivial ?_
     refine rd sound_nil 9 [0, 1, 12, 13, 24] trivial ?_
     refine cn ?_ ?_
     ·intro h; try exact nd h
      all_goals
       refine rg sound_nil [4] trivial ?_
       refine fi trivial ?_
       first
        | exact (decide_eq_false (fun e => by subst e; first | omega | exact h rfl | (simp_all; done))).symm
        | exact (decide_eq_true (by rw [show i = a.length from (by omega), List.take_length, hl, List.take_length] at ht; exact ht)).symm
     ·intro h; try exact nd h
      all_goals
       refine rgL sound_nil trivial ?_
       refine nx ?_
       exact ⟨i + 1, ⟨by omega, hl, take_eq_next ht (by omega) (by omega) h⟩, et, by omega⟩
   ·intro h; try exact nd h
    all_goals
     refine rg sound_nil [4] trivial ?_
     refine fi trivial ?_
     first
      | exact (decide_eq_false (fun e => by subst e; first | omega | exact h rfl | (simp_all; done))).symm
      | exact (decide_eq_true (by rw [show i = a.length from (by omega), List.take_length, hl, List.take_length] at ht; exact ht)).symm)
@[go_sem] noncomputable def tisF : PFn := PF [ST, SI .i64, SI .i64] (fun (t : T) (c : Int) (g : Int) => True) (fun (t : T) (c : Int) (g : Int) => [.bool (decide (t.cls = c ∧ t.tag = g))])
theorem tis_ok : Pure E 106 tisF := Pure.of_sig (rs := [.tmp 6]) (n := 17) Tryz.func106 rfl rfl rfl (Nat.le_of_ble_eq_true rfl) (by
 intro (t : T) (c : Int) (g : Int) hds
 refine st0 ?_
 refine rg sound_nil [1, 2, 3] trivial ?_
 refine rB sound_nil [6] trivial fun K' hK => ?_
 repeat' first | (refine lf hK trivial ?_; clear hK K') | with_reducible apply And.intro | refine sA trivial (fun _ => ?_) fun _ => ?_ | refine sAb trivial (fun _ => ?_) fun _ => ?_ | refine sAl trivial (fun g => ?_) fun g => ?_ | exact sd | exact sde trivial | exact sdp trivial | refine stk trivial ?_ | fail
 all_goals
  refine fi trivial ?_
  first | (simp_all; done) | fail)
end Go.Proofs.YtpajpkbipagjpaaGreatDoor.Oc
namespace Go.Proofs.YtpajpkbipagjpaaGreatDoor.Oc
open Go Go.RowKit Go.Proofs.YtpajpkbipagjpaaGreatDoor.Vm Go.Proofs.YtpajpkbipagjpaaGreatDoor.Tr Go.IntWalk
set_option maxRecDepth 100000
set_option maxHeartbeats 4000000
theorem T.ext {a b : T} : a = b ↔ (a.cls = b.cls ∧ a.tag = b.tag) ∧ a.cons = b.cons ∧ a.bytes = b.bytes ∧ a.kids = b.kids := by
 cases a; cases b
 simp [T.cls, T.tag, T.cons, T.bytes, T.kids, and_assoc]
theorem takeT_next {a b : List T} {i : Nat} (h : a.take i = b.take i) (ha : i < a.length) (hb : i < b.length) (e : a.getD i T.zero = b.getD i T.zero) : a.take (i + 1) = b.take (i + 1) := by
 rw [List.take_add_one, List.take_add_one, h, List.getElem?_eq_getElem ha, List.getElem?_eq_getElem hb]
 simp only [List.getD_eq_getElem?_getD, List.getElem?_eq_getElem ha, List.getElem?_eq_getElem hb, Option.getD_some] at e
 rw [e]
theorem elt_sz {l : List T} {i : Nat} (h : i < l.length) : (l.getD i T.zero).sz ≤ T.szs l := by
 rw [List.getD_eq_getElem?_getD, List.getElem?_eq_getElem h]
 exact T.szs_mem (List.getElem_mem h)
theorem kids_szs (t : T) : T.szs t.kids + 5 + t.bytes.length = t.sz := by rw [T.sz_eq t]; omega
@[go_sem] noncomputable def sameF (n : Nat) : PFn := PF [ST, ST] (fun (a : T) (b : T) => a.sz < n ∧ a.sz ≤ 100000000) (fun (a : T) (b : T) => [.bool (decide (a = b))])
@[go_sem] noncomputable def eqfF (n : Nat) : PFn := PF [SL, SL, SD] (fun (a : List T) (b : List T) (d : Vm.Data) => T.szs a < n ∧ T.szs a ≤ 100000000 ∧ d = .fn (.func 76)) (fun (a : List T) (b : List T) (d : Vm.Data) => [.bool (decide (a = b))])
noncomputable def ΦE (m : Nat) : Fns := tab [(76, sameF m)]
theorem ΦE_ok {m : Nat} (h : Pure E 76 (sameF m)) : Sound E (ΦE m) := sound_cons (by kernel_rfl) h sound_nil
@[go_sem] theorem ΦE_r (m : Nat) : ΦE m 76 = some (sameF m) := rfl
theorem eqf_of {m : Nat} (hS : Pure E 76 (sameF m)) : Pure E 114 (eqfF m) := Pure.of_sig (rs := [.tmp 6]) (n := 32) Tryz.func114 rfl rfl rfl (Nat.le_of_ble_eq_true rfl) (by
 intro (a : List T) (b : List T) (d : Vm.Data) hds
 obtain ⟨h1, h2, rfl⟩ := hds
 have hal := T.szs_len a
 have hΦ := ΦE_ok hS
 refine st0 ?_
 refine rg hΦ [0, 1, 2] trE ?_
 refine rg hΦ [0, 1, 2, 14] trE ?_
 refine cn ?_ ?_
 ·intro h; try exact nd h
  all_goals
   refine rg hΦ [6] trE ?_
   refine fi trivial ?_
   first
    | exact (decide_eq_false (fun e => by subst e; first | omega | (simp_all; done))).symm
    | exact (decide_eq_true (by rw [show i = a.length from (by omega), List.take_length, hl, List.take_length] at ht; exact ht)).symm
 ·intro h; try exact nd h
  all_goals
   refine rg hΦ [1, 2, 15, 16, 17] trE ?_
   refine nx ?_
   refine VC.loopP (ι := Nat) [0, 1, 2, 15, 16] (fun i => [(17, .dat (.int .i64 (i : Int)))]) (fun _ => []) (fun i => i ≤ a.length ∧ a.length = b.length ∧ a.take i = b.take i) (fun i => a.length - i) 0 (⟨Nat.zero_le _, by omega, rfl⟩) (et) ?_
   rintro i hp; try dsimp only at hp
   obtain ⟨hi, hl, ht⟩ := hp
   refine st0 ?_
   refine rg hΦ [0, 1, 2, 15, 16, 17, 18] trE ?_
   refine cn ?_ ?_
   ·intro h; try exact nd h
    all_goals
     have hk := elt_sz (l := a) (i := i) (by omega)
     refine rg hΦ [0, 1, 2, 7, 8, 15, 16, 17] trE ?_
     refine rg hΦ [0, 1, 2, 8, 9, 15, 16, 17] trE ?_
     refine rg hΦ [0, 1, 2, 15, 16, 17, 30] trE ?_
     refine cn ?_ ?_
     ·intro h; try exact nd h
      all_goals
       refine rg hΦ [6] trE ?_
       refine fi trivial ?_
       first
        | exact (decide_eq_false (fun e => by subst e; first | omega | (simp_all; done))).symm
        | exact (decide_eq_true (by rw [show i = a.length from (by omega), List.take_length, hl, List.take_length] at ht; exact ht)).symm
     ·intro h; try exact nd h
      all_goals
       refine rgL hΦ trE ?_
       refine nx ?_
       exact ⟨i + 1, ⟨by omega, hl, takeT_next ht (by omega) (by omega) (by simpa using h)⟩, et, by omega⟩
   ·intro h; try exact nd h
    all_goals
     refine rg hΦ [6] trE ?_
     refine fi trivial ?_
     first
      | exact (decide_eq_false (fun e => by subst e; first | omega | (simp_all; done))).symm
      | exact (decide_eq_true (by rw [show i = a.length from (by omega), List.take_length, hl, List.take_length] at ht; exact ht)).symm)
noncomputable def ΦS (m : Nat) : Fns := tab [(106, tisF), (103, beqF), (114, eqfF m)]
theorem ΦS_ok {m : Nat} (h : Pure E 76 (sameF m)) : Sound E (ΦS m) := sound_cons (by kernel_rfl) tis_ok (sound_cons (by kernel_rfl) beq_ok (sound_cons (by kernel_rfl) (eqf_of h) sound_nil))
@[go_sem] theorem ΦS_r (m : Nat) : ΦS m 106 = some tisF ∧ ΦS m 103 = some beqF ∧ ΦS m 114 = some (eqfF m) := ⟨rfl, rfl, rfl⟩
theorem same_ok (n : Nat) : Pure E 76 (sameF n) := by
 induction n using Nat.strongRecOn with
 | _ n ih =>
 exact Pure.of_sig (rs := [.tmp 4]) (n := 32) Tryz.func76 rfl rfl rfl (Nat.le_of_ble_eq_true rfl) (by
  intro (a : T) (b : T) hds
  have hΦ := ΦS_ok (ih a.sz (by omega))
  have hka := kids_szs a
  refine st0 ?_
  refine rg hΦ [2, 3] trE ?_
  refine rB hΦ [4] trE fun K' hK => ?_
  repeat' first | (refine lf hK trE ?_; clear hK K') | with_reducible apply And.intro | refine sA trE (fun _ => ?_) fun _ => ?_ | refine sAb trE (fun _ => ?_) fun _ => ?_ | refine sAl trE (fun g => ?_) fun g => ?_ | exact sd | exact sde trE | exact sdp trE | refine stk trE ?_ | fail
  all_goals
   refine fi trivial ?_
   first | (simp only [T.ext (a := a) (b := b)]; simp_all; done) | fail)
@[go_sem] noncomputable def same0F : PFn := sameF 100000001
theorem same0_ok : Pure E 76 same0F := same_ok 100000001
@[go_sem] noncomputable def rsameF (n : Nat) : PFn := PF [ST, ST] (fun (a : T) (b : T) => a.sz < n ∧ a.sz ≤ 100000000) (fun (a : T) (b : T) => [.bool (decide (a = b))])
noncomputable def ΦRS (m : Nat) : Fns := tab [(15, rsameF m)]
theorem ΦRS_ok {m : Nat} (h : Pure E 15 (rsameF m)) : Sound E (ΦRS m) := sound_cons (by kernel_rfl) h sound_nil
@[go_sem] theorem ΦRS_r (m : Nat) : ΦRS m 15 = some (rsameF m) := rfl
theorem rsame_ok (n : Nat) : Pure E 15 (rsameF n) := by
 induction n using Nat.strongRecOn with
 | _ n ih =>
 exact Pure.of_sig (rs := [.tmp 4]) (n := 64) Tryz.func15 rfl rfl rfl (Nat.le_of_ble_eq_true rfl) (by
  intro (a : T) (b : T) hds
  have hΦ := ΦRS_ok (ih a.sz (by omega))
  have hka := kids_len a
  refine st0 ?_
  refine rg hΦ [2, 3] trE ?_
  refine rB hΦ [2, 3, 43] trE fun K' hK => ?_
  repeat' first | (refine lf hK trE ?_; clear hK K') | with_reducible apply And.intro | refine sA trE (fun _ => ?_) fun _ => ?_ | refine sAb trE (fun _ => ?_) fun _ => ?_ | refine sAl trE (fun g => ?_) fun g => ?_ | exact sd | exact sde trE | exact sdp trE | refine stk trE ?_ | fail
  all_goals
   refine cn ?_ ?_
   ·intro h; try exact nd h
    all_goals
     refine rg hΦ [4] trE ?_
     refine fi trivial ?_
     first
      | exact (decide_eq_false (fun e => by subst e; first | omega | exact h rfl | (simp_all; done))).symm
      | (have hk : a.kids = b.kids := (by rw [show i = a.kids.length from (by omega), List.take_length, hl, List.take_length] at ht; exact ht)
         simp only [T.ext (a := a) (b := b)]; simp_all; done)
      | fail
   ·intro h; try exact nd h
    all_goals
     refine rg hΦ [2, 3, 5] trE ?_
     refine nx ?_
     refine VC.loopP (ι := Nat) [2, 3] (fun i => [(5, .dat (.int .i64 (i : Int)))]) (fun _ => [(1, .cells [.dat (.int .i64 a.cls), .dat (.int .i64 a.tag), .dat (.bool a.cons), .dat (.lst (bytesD a.bytes)), .dat (.lst (nodesD a.kids))] false), (2, .cells [.dat (.int .i64 b.cls), .dat (.int .i64 b.tag), .dat (.bool b.cons), .dat (.lst (bytesD b.bytes)), .dat (.lst (nodesD b.kids))] false)]) (fun i => i ≤ a.kids.length ∧ a.kids.length = b.kids.length ∧ a.kids.take i = b.kids.take i) (fun i => a.kids.length - i) 0 (⟨Nat.zero_le _, by omega, rfl⟩) (et) ?_
     rintro i hp; try dsimp only at hp
     obtain ⟨hi, hl, ht⟩ := hp
     refine st0 ?_
     refine rg hΦ [2, 3, 5, 48] trE ?_
     refine cn ?_ ?_
     ·intro h; try exact nd h
      all_goals
       have hk := kid_lt (t := a) (i := i) (by omega)
       refine rd hΦ 12 [2, 3, 5, 6] trE ?_
       refine rg hΦ [2, 3, 5, 63] trE ?_
       refine cn ?_ ?_
       ·intro h; try exact nd h
        all_goals
         refine rg hΦ [4] trE ?_
         refine fi trivial ?_
         first
          | exact (decide_eq_false (fun e => by subst e; first | omega | exact h rfl | (simp_all; done))).symm
          | (have hk : a.kids = b.kids := (by rw [show i = a.kids.length from (by omega), List.take_length, hl, List.take_length] at ht; exact ht)
             simp only [T.ext (a := a) (b := b)]; simp_all; done)
          | fail
       ·intro h; try exact nd h
        all_goals
         refine rgL hΦ trE ?_
         refine nx ?_
         exact ⟨i + 1, ⟨by omega, hl, takeT_next ht (by omega) (by omega) (by simpa using h)⟩, et, by omega⟩
     ·intro h; try exact nd h
      all_goals
       refine rg hΦ [4] trE ?_
       refine fi trivial ?_
       first
        | exact (decide_eq_false (fun e => by subst e; first | omega | exact h rfl | (simp_all; done))).symm
        | (have hk : a.kids = b.kids := (by rw [show i = a.kids.length from (by omega), List.take_length, hl, List.take_length] at ht; exact ht)
           simp only [T.ext (a := a) (b := b)]; simp_all; done)
        | fail)
@[go_sem] noncomputable def rsame0F : PFn := rsameF 100000001
theorem rsame0_ok : Pure E 15 rsame0F := rsame_ok 100000001
end Go.Proofs.YtpajpkbipagjpaaGreatDoor.Oc
namespace Go.Proofs.YtpajpkbipagjpaaGreatDoor.Oc
open Go Go.RowKit Go.Proofs.YtpajpkbipagjpaaGreatDoor.Vm Go.Proofs.YtpajpkbipagjpaaGreatDoor.Tr Go.IntWalk
set_option maxRecDepth 100000
set_option maxHeartbeats 4000000
theorem alls_next {t : T} {i : Nat} (h : i < t.kids.length) : T.alls (t.kids.take (i + 1)) = T.alls (t.kids.take i) ++ (t.kids.getD i T.zero).all := by
 rw [List.take_add_one, List.getElem?_eq_getElem h, T.alls_append]
 simp [T.alls_cons, T.alls_nil, List.getD_eq_getElem?_getD, h]
theorem alls_take_len {t : T} {i : Nat} : 5 * (T.alls (t.kids.take i)).length ≤ t.sz := by
 have e := T.all_len t
 rw [T.all_eq] at e
 have : (T.alls (t.kids.take i)).length ≤ (T.alls t.kids).length := by
  conv => rhs; rw [← List.take_append_drop i t.kids, T.alls_append]
  simp
 simp at e; omega
def pre (t : T) (i : Nat) : List T := t :: T.alls (t.kids.take i)
theorem pre_next {t : T} {i : Nat} (h : i < t.kids.length) : pre t i ++ (t.kids.getD i T.zero).all = pre t (i + 1) := by unfold pre; rw [alls_next h]; rfl
theorem pre_all (t : T) : pre t t.kids.length = t.all := by unfold pre; rw [List.take_length, T.all_eq]
theorem pre_len (t : T) (i : Nat) : 5 * (pre t i).length ≤ t.sz + 5 := by
 have := alls_take_len (t := t) (i := i)
 unfold pre; rw [List.length_cons]; omega
theorem trL : (∀ (t : T) (i : Nat), i < t.kids.length → pre t i ++ (t.kids.getD i T.zero).all = pre t (i + 1)) ∧ (∀ (t : T) (i : Nat), i < t.kids.length → (pre t i).length + (t.kids.getD i T.zero).all.length = (pre t (i + 1)).length) ∧
 (∀ t : T, pre t t.kids.length = t.all) ∧ (∀ t : T, (pre t 0).length = 1) ∧ ∀ t : T, nodesD (pre t 0) = [[.int .i64 t.cls, .int .i64 t.tag, .bool t.cons, .lst (bytesD t.bytes), .lst (nodesD t.kids)]] :=
 ⟨fun _ _ h => pre_next h, fun _ _ h => by rw [← pre_next h, List.length_append], pre_all, fun t => by simp [pre, T.alls_nil], fun t => by
  unfold pre; rw [List.take_zero, T.alls_nil, nodesD_cons, nodesD_nil, nodeC_eq]⟩
def nodesRow (l : List T) : Vm.Data := .lst (nodesD l)
attribute [go_sem] nodesRow
@[go_sem] noncomputable def listF (n : Nat) : PFn := PF [ST] (fun (t : T) => t.sz < n ∧ t.sz ≤ 100000000) (fun (t : T) => [nodesRow t.all])
noncomputable def ΦLI (m : Nat) : Fns := tab [(57, listF m)]
theorem ΦLI_ok {m : Nat} (h : Pure E 57 (listF m)) : Sound E (ΦLI m) := sound_cons (by kernel_rfl) h sound_nil
@[go_sem] theorem ΦLI_r (m : Nat) : ΦLI m 57 = some (listF m) := rfl
theorem list_ok (n : Nat) : Pure E 57 (listF n) := by
 induction n using Nat.strongRecOn with
 | _ n ih =>
 exact Pure.of_sig (rs := [.tmp 2]) (n := 23) Tryz.func57 rfl rfl rfl (Nat.le_of_ble_eq_true rfl) (by
  intro (t : T) hds
  have hkl := kids_len t
  have hΦ := ΦLI_ok (ih (t.sz) (by omega))
  refine st0 ?_
  refine rg hΦ [1] trE ?_
  refine rg hΦ [1, 3] trE ?_
  refine rg hΦ [1, 3, 4] trE ?_
  refine nx ?_
  refine VC.loopP (ι := Nat) [1] (fun i => [(4, .dat (.int .i64 (i : Int))), (3, .sl 2 0 (pre t i).length)]) (fun i => [(1, .cells [.dat (.int .i64 t.cls), .dat (.int .i64 t.tag), .dat (.bool t.cons), .dat (.lst (bytesD t.bytes)), .dat (.lst (nodesD t.kids))] false), (2, .arr 25 5 (nodesD (pre t i)) 0)]) (fun i => i ≤ t.kids.length) (fun i => t.kids.length - i) 0 (by omega) (ete (And.intro trE trL)) ?_
  rintro i hp; try dsimp only at hp
  have hta := pre_len t i
  refine st0 ?_
  refine rg hΦ [1, 3, 4, 11] trE ?_
  refine cn ?_ ?_
  ·intro h; try exact nd h
   all_goals
    have hk := kid_lt (t := t) (i := i) (by omega)
    have hal := T.all_len (t.kids.getD i T.zero)
    refine rgL hΦ trE ?_
    refine rgL hΦ trE ?_
    refine nx ?_
    exact ⟨i + 1, by omega, ete (And.intro trE trL), by omega⟩
  ·intro h; try exact nd h
   all_goals
    obtain rfl : i = t.kids.length := by omega
    refine rg hΦ [2] trE ?_
    exact fz (And.intro trE trL))
end Go.Proofs.YtpajpkbipagjpaaGreatDoor.Oc

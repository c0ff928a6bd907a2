/- What functions of the program, of its library and of the document compute: their contracts, and laws about what they compute (X05). No condition. -/
import Derived.Shelf.Strings.Builder1
import Derived.Shelf.Strings.Builder2
import Derived.Test.YtpajpkbipagjpaaGreatDoorProg
import Derived.WalkKit
import Derived.BigCall
import Derived.BigGuard
import Derived.Test.YtpajpkbipagjpaaGreatDoorX03
import Derived.IntWalk
import Derived.Shelf.Strings.OnBuilder
import Derived.Shelf.Strconv.Itoa0
import Derived.Shelf.Strconv.Itoa1
import Derived.Shelf.LaysM
import Derived.Shelf.Strconv.Itoa2
import Derived.Shelf.Strconv.Itoa3
import Derived.Shelf.Strconv.Clone
import Derived.Shelf.Strconv.SyntaxError
import Derived.Shelf.LaysC
import Derived.Shelf.Strconv.ToError
import Derived.Shelf.Strconv.Lower
import Derived.Shelf.Strconv.ParseUint10
import Derived.Shelf.Strconv.ParseUint10Empty
import Derived.Shelf.Strconv.RangeError
import Derived.Shelf.Strconv.ToErrorRange
import Derived.Shelf.Strings.Search1
import Derived.Shelf.Strings.Search2
import Derived.Shelf.Strings.Search3
import Derived.Lib.Walk
import Derived.Lib.ItoaNum
import Derived.Lib.Strings
import Derived.Lib.ItoaWalk
import Derived.Lib.LaidTab
import Derived.Lib.Hide
import Derived.Lib.ConvBytes
import Derived.Lib.ParseIntBMem
import Derived.Laws.Strings3
import Derived.Laws.Closers25
import Derived.Laws.Closers25b
set_option linter.unusedVariables false
set_option linter.unusedSimpArgs false
namespace Go.Proofs
open Go.Shelf
def Tryz.lays169_ren : Go.Shelf.Ren := ⟨fun | 169 => 144 | n => n, fun | 70 => 194 | 9 => 9 | 0 => 0 | 72 => 196 | 37 => 22 | 127 => 246 | 3 => 3 | 5 => 5 | n => n, fun | n => n⟩
theorem Tryz.lays169 : Go.Proofs.Lays.n169 Tryz.prog Tryz.lays169_ren := {
 mixed := by kernel_rfl
 f169 := Tryz.func144.trans (congrArg some (by kernel_rfl))
 t0 := Tryz.underlying0
 a0 := Tryz.isAgg0
 z0 := Tryz.sizeOf0
 v0 := Tryz.zeroValue0
 t3 := Tryz.underlying3
 a3 := Tryz.isAgg3
 z3 := Tryz.sizeOf3
 v3 := Tryz.zeroValue3
 t9 := Tryz.underlying9
 a9 := Tryz.isAgg9
 z9 := Tryz.sizeOf9
 v9 := Tryz.zeroValue9
 t37 := Tryz.underlying22
 a37 := Tryz.isAgg22
 z37 := Tryz.sizeOf22
 v37 := Tryz.zeroValue22
 t70 := Tryz.underlying194
 a70 := Tryz.isAgg194
 z70 := Tryz.sizeOf194
 v70 := Tryz.zeroValue194
 t72 := Tryz.underlying196
 a72 := Tryz.isAgg196
 z72 := Tryz.sizeOf196
 v72 := Tryz.zeroValue196
 t127 := Tryz.underlying246
 a127 := Tryz.isAgg246
 z127 := Tryz.sizeOf246
 v127 := Tryz.zeroValue246 }
theorem Tryz.Builder_Extra_169 : Builder.Extra Tryz.prog Tryz.lays169_ren := {
 sizeBuilder := by kernel_rfl
 liesBuilder := by kernel_rfl
 t5 := Tryz.underlying5
 a5 := Tryz.isAgg5
 z5 := Tryz.sizeOf5
 v5 := Tryz.zeroValue5
 infoByte := by kernel_rfl
 cellsByte := by kernel_rfl
 sizeByte := by kernel_rfl
 neB5 := by decide }
open Go.RowKit in
theorem Tryz.Builder_String_any (B b : Nat) (l : List UInt8) (w : World) (h : Lib.IsBuilder 196 5 B b (Lib.byteCells l) w) (hBw : B ≤ w.heap.size) :
 Calls Tryz.prog 144 #[.pointer (some ⟨b, 0, none⟩)] w fun e w' => e = .returned (.string ⟨l.toArray⟩) ∧ Below B w w' := Any.Builder_String_any Tryz.lays169 Tryz.Builder_Extra_169 B b l w h hBw
end Go.Proofs
namespace Go.Proofs
open Go.Shelf Go.RowKit
def Tryz.lays167_ren : Go.Shelf.Ren := ⟨fun | 167 => 143 | 156 => 157 | 165 => 207 | 166 => 208 | 169 => 144 | 240 => 194 | 241 => 249 | 276 => 234 | 277 => 290 | n => n, fun | 31 => 111 | 9 => 9 | 3 => 3 | 4 => 4 | 0 => 0 | 20 => 20 | 72 => 196 | 76 => 259 | 70 => 194 | 37 => 22 | 75 => 198 | 127 => 246 | 164 => 285 | 5 => 5 | 80 => 200 | n => n, fun | n => n⟩
theorem Tryz.lays167 : Go.Proofs.Lays.n167 Tryz.prog Tryz.lays167_ren := {
 mixed := by kernel_rfl
 f167 := Tryz.func143.trans (congrArg some (by kernel_rfl))
 f240 := Tryz.func194.trans (congrArg some (by kernel_rfl))
 f276 := Tryz.func234.trans (congrArg some (by kernel_rfl))
 t0 := Tryz.underlying0
 a0 := Tryz.isAgg0
 z0 := Tryz.sizeOf0
 v0 := Tryz.zeroValue0
 t4 := Tryz.underlying4
 a4 := Tryz.isAgg4
 z4 := Tryz.sizeOf4
 v4 := Tryz.zeroValue4
 t5 := Tryz.underlying5
 a5 := Tryz.isAgg5
 z5 := Tryz.sizeOf5
 v5 := Tryz.zeroValue5
 t9 := Tryz.underlying9
 a9 := Tryz.isAgg9
 z9 := Tryz.sizeOf9
 v9 := Tryz.zeroValue9
 t20 := Tryz.underlying20
 a20 := Tryz.isAgg20
 z20 := Tryz.sizeOf20
 v20 := Tryz.zeroValue20
 t37 := Tryz.underlying22
 a37 := Tryz.isAgg22
 z37 := Tryz.sizeOf22
 v37 := Tryz.zeroValue22
 t70 := Tryz.underlying194
 a70 := Tryz.isAgg194
 z70 := Tryz.sizeOf194
 v70 := Tryz.zeroValue194
 t72 := Tryz.underlying196
 a72 := Tryz.isAgg196
 z72 := Tryz.sizeOf196
 v72 := Tryz.zeroValue196
 t75 := Tryz.underlying198
 a75 := Tryz.isAgg198
 z75 := Tryz.sizeOf198
 v75 := Tryz.zeroValue198
 t164 := Tryz.underlying285
 a164 := Tryz.isAgg285
 z164 := Tryz.sizeOf285
 v164 := Tryz.zeroValue285 }
theorem Tryz.Builder_Extra_167 : Builder.Extra Tryz.prog Tryz.lays167_ren := {
 sizeBuilder := by kernel_rfl
 liesBuilder := by kernel_rfl
 t5 := Tryz.underlying5
 a5 := Tryz.isAgg5
 z5 := Tryz.sizeOf5
 v5 := Tryz.zeroValue5
 infoByte := by kernel_rfl
 cellsByte := by kernel_rfl
 sizeByte := by kernel_rfl
 neB5 := by decide }
open Go.RowKit in
theorem Tryz.WriteByte (B b : Nat) (bs : List Value) (c : Int) (w : World) (h : Lib.IsBuilder 196 5 B b bs w) (hlen : bs.length + 1 ≤ 140737488355328) (hBw : B ≤ w.heap.size) :
 Calls Tryz.prog 143 #[.pointer (some ⟨b, 0, none⟩), .int .u8 c] w fun e w' => e = .returned .nilIface ∧ (Lib.BuilderAt 196 5 B b (.pointer (some ⟨b, 0, none⟩)) (bs ++ [.int .u8 c]) w' ∧ Below B w w') := Any.Builder_WriteByte Tryz.lays167 Tryz.Builder_Extra_167 B b bs c w h hlen hBw
def hexD (n : Nat) : UInt8 := ([48, 49, 50, 51, 52, 53, 54, 55, 56, 57, 97, 98, 99, 100, 101, 102] : List UInt8).getD n 0
def hexS : List UInt8 → List UInt8
 | [] => []
 | c :: r => hexD (c.toNat / 16) :: hexD (c.toNat % 16) :: hexS r
theorem hexS_app : ∀ (a b : List UInt8), hexS (a ++ b) = hexS a ++ hexS b
 | [], b => rfl
 | c :: a, b => by simp only [List.cons_append, hexS, hexS_app a b]
theorem hexS_len : ∀ (a : List UInt8), (hexS a).length = 2 * a.length
 | [] => rfl
 | c :: a => by simp only [hexS, List.length_cons, hexS_len a]; omega
theorem hexS_snoc {s : List UInt8} {k : Nat} (h : k < s.length) : hexS (s.take (k + 1)) = hexS (s.take k) ++ [hexD (s[k].toNat / 16)] ++ [hexD (s[k].toNat % 16)] := by
 rw [List.take_add_one, List.getElem?_eq_getElem h, Option.toList_some, hexS_app]
 simp [hexS]
def hexT : ByteArray := ⟨#[48, 49, 50, 51, 52, 53, 54, 55, 56, 57, 97, 98, 99, 100, 101, 102]⟩
theorem hexG {n : Nat} (h : n < hexT.size) : hexT[n]'h = hexD n := by
 have : ∀ n : Fin 16, hexT[n.val]'n.isLt = hexD n.val := by decide +kernel
 exact this ⟨n, h⟩
theorem hexU {p : Prop} (h : p) : Hid p := h
theorem byteBk (l : List UInt8) : (Lib.byteCells l).length = l.length := Lib.byteCells_length l
set_option maxHeartbeats 4000000 in
set_option maxRecDepth 1000000 in
theorem hex_calls (s : List UInt8) (b o c : Nat) (w : World) (hb : b < w.heap.size) (hl : s.length ≤ 1000000) (hc : ∀ j (h : j < s.length), w.cell? ⟨b, o + j, none⟩ = some (.int .u8 (s[j].toNat : Int))) :
 Calls Tryz.prog 101 #[.slice (some ⟨b, o, none⟩) s.length c] w fun e w' => e = .returned (.string ⟨(hexS s).toArray⟩) ∧ Below w.heap.size w w' := by
 have HC := hexU hc
 clear hc
 go_enter Tryz.func101, Tryz.ntmps101
 go_wp2
 go_loopw [8] (fun i wr => ∃ k : Nat, k ≤ s.length ∧ i = .int .i64 k ∧ Hid (Lib.IsBuilder 196 5 w.heap.size w.heap.size (Lib.byteCells (hexS (s.take k))) wr) ∧ Hid (Below w.heap.size w wr)) (fun i _ => s.length - (intOf i).toNat)
 case atStart => exact ⟨0, Nat.zero_le _, rfl, Lib.fresh_isBuilder 196 5 w, (Below.refl _ w).alloc (Nat.le_refl _) _⟩
 case round =>
  obtain ⟨k, hk, rfl, HB, HW⟩ := hrel
  have hsz : w.heap.size ≤ wr.heap.size := HW.out.size
  by_cases hlt : k < s.length
  ·have hx : wr.cell? ⟨b, o + k, none⟩ = some (.int .u8 (s[k].toNat : Int)) := (HW.out.cell hb).trans (HC.out k hlt)
   have hx0 : s[k].toNat < 256 := s[k].toNat_lt
   generalize hX : s[k].toNat = x at hx hx0
   have hbk := byteBk (hexS (s.take k))
   have hlen : (hexS (s.take k)).length ≤ 2000000 := by rw [hexS_len, List.length_take]; omega
   go_wp2_with fail
   rw [show (⟨#[48, 49, 50, 51, 52, 53, 54, 55, 56, 57, 97, 98, 99, 100, 101, 102]⟩ : ByteArray)[x / 16]'(show x / 16 < 16 by omega) = hexD (x / 16) from hexG _]
   refine (Tryz.WriteByte w.heap.size w.heap.size _ _ wr HB.out (by rw [hbk]; omega) hsz).mono ?_
   rintro e w2 ⟨rfl, h2, hb2⟩
   have HB2 := hexU h2
   have HW2 := hexU hb2
   have hsz2 : w.heap.size ≤ w2.heap.size := Nat.le_trans hsz hb2.size
   clear h2 hb2
   go_wp2_with fail
   rw [show (⟨#[48, 49, 50, 51, 52, 53, 54, 55, 56, 57, 97, 98, 99, 100, 101, 102]⟩ : ByteArray)[x % 16]'(show x % 16 < 16 by omega) = hexD (x % 16) from hexG _]
   refine (Tryz.WriteByte w.heap.size w.heap.size _ _ w2 (Or.inr HB2.out) (by rw [List.length_append, hbk]; simp; omega) hsz2).mono ?_
   rintro e w3 ⟨rfl, h3, hb3⟩
   have e3 : Lib.byteCells (hexS (s.take k)) ++ [Value.int .u8 (hexD (x / 16)).toNat] ++ [Value.int .u8 (hexD (x % 16)).toNat] = Lib.byteCells (hexS (s.take (k + 1))) := by
    rw [hexS_snoc hlt, hX, Lib.byteCells_append, Lib.byteCells_append]; rfl
   rw [e3] at h3
   have HB3 := hexU (Or.inr h3 : Lib.IsBuilder 196 5 w.heap.size w.heap.size _ w3)
   have HW3 := hexU ((HW.out.trans HW2.out).trans hb3)
   clear h3 hb3
   go_wp2
   exact ⟨⟨k + 1, by omega, by go_num, HB3, HW3⟩, by simp [intOf]; omega⟩
  ·obtain rfl : k = s.length := by omega
   have HB' := HB.out
   rw [List.take_length] at HB'
   have HB4 := hexU HB'
   clear HB'
   go_wp2_with fail
   refine (Tryz.Builder_String_any w.heap.size w.heap.size (hexS s) wr HB4.out hsz).mono ?_
   rintro e w2 ⟨rfl, hb2⟩
   have HW2 := hexU (HW.out.trans hb2)
   clear hb2
   go_wp2
   go_ret
   exact ⟨rfl, HW2.out⟩
end Go.Proofs
namespace Go.Proofs.YtpajpkbipagjpaaGreatDoor.Tr
open Go Go.RowKit Go.Proofs.YtpajpkbipagjpaaGreatDoor.Vm
inductive T where
 | mk (cls tag : Int) (cons : Bool) (bytes : List UInt8) (kids : List T)
 deriving Inhabited
namespace T
def cls : T → Int | .mk c _ _ _ _ => c
def tag : T → Int | .mk _ g _ _ _ => g
def cons : T → Bool | .mk _ _ b _ _ => b
def bytes : T → List UInt8 | .mk _ _ _ s _ => s
def kids : T → List T | .mk _ _ _ _ ks => ks
theorem cls_mk {c g : Int} {b : Bool} {s : List UInt8} {ks : List T} : (T.mk c g b s ks).cls = c := rfl
theorem tag_mk {c g : Int} {b : Bool} {s : List UInt8} {ks : List T} : (T.mk c g b s ks).tag = g := rfl
theorem cons_mk {c g : Int} {b : Bool} {s : List UInt8} {ks : List T} : (T.mk c g b s ks).cons = b := rfl
theorem bytes_mk {c g : Int} {b : Bool} {s : List UInt8} {ks : List T} : (T.mk c g b s ks).bytes = s := rfl
theorem kids_mk {c g : Int} {b : Bool} {s : List UInt8} {ks : List T} : (T.mk c g b s ks).kids = ks := rfl
theorem eta (t : T) : T.mk t.cls t.tag t.cons t.bytes t.kids = t := by cases t; rfl
def zero : T := .mk 0 0 false [] []
mutual
def beq : T → T → Bool
 | .mk c g b s ks, .mk c' g' b' s' ks' => decide (c = c') && (decide (g = g') && (decide (b = b') && (decide (s = s') && beqs ks ks')))
def beqs : List T → List T → Bool
 | [], [] => true
 | x :: xs, y :: ys => beq x y && beqs xs ys
 | [], _ :: _ => false
 | _ :: _, [] => false
end
mutual
theorem beq_eq : ∀ (a b : T), (beq a b = true) ↔ a = b
 | .mk c g b s ks, .mk c' g' b' s' ks' => by
   simp only [beq, Bool.and_eq_true, decide_eq_true_eq, beqs_eq ks ks', T.mk.injEq]
theorem beqs_eq : ∀ (a b : List T), (beqs a b = true) ↔ a = b
 | [], [] => by simp [beqs]
 | x :: xs, y :: ys => by simp only [beqs, Bool.and_eq_true, beq_eq x y, beqs_eq xs ys, List.cons.injEq]
 | [], _ :: _ => by simp [beqs]
 | _ :: _, [] => by simp [beqs]
end
instance : DecidableEq T := fun a b => decidable_of_iff _ (beq_eq a b)
mutual
def sz : T → Nat
 | .mk _ _ _ s ks => 5 + s.length + szs ks
def szs : List T → Nat
 | [] => 0
 | t :: ts => sz t + szs ts
end
theorem sz_mk {c g : Int} {b : Bool} {s : List UInt8} {ks : List T} : sz (.mk c g b s ks) = 5 + s.length + szs ks := by rw [sz]
theorem szs_nil : szs [] = 0 := by rw [szs]
theorem szs_cons {t : T} {ts : List T} : szs (t :: ts) = sz t + szs ts := by rw [szs]
theorem sz_eq (t : T) : t.sz = 5 + t.bytes.length + szs t.kids := by cases t; rw [sz]; rfl
theorem szs_append (a b : List T) : szs (a ++ b) = szs a + szs b := by
 induction a with
 | nil => simp [szs_nil]
 | cons x a ih => simp only [List.cons_append, szs_cons, ih]; omega
theorem szs_mem {t : T} {l : List T} (h : t ∈ l) : t.sz ≤ szs l := by
 induction l with
 | nil => cases h
 | cons x l ih =>
   rw [szs_cons]
   rcases List.mem_cons.1 h with rfl | h
   ·omega
   ·have := ih h; omega
theorem szs_len (l : List T) : 5 * l.length ≤ szs l := by
 induction l with
 | nil => simp
 | cons x l ih => rw [szs_cons, sz_eq x, List.length_cons]; omega
theorem kid_sz {t k : T} (h : k ∈ t.kids) : k.sz < t.sz := by
 have := szs_mem h
 rw [sz_eq t]; omega
mutual
def all : T → List T
 | .mk c g b s ks => .mk c g b s ks :: alls ks
def alls : List T → List T
 | [] => []
 | t :: ts => all t ++ alls ts
end
theorem all_eq (t : T) : t.all = t :: alls t.kids := by cases t; rw [all]; rfl
theorem alls_nil : alls [] = [] := by rw [alls]
theorem alls_cons {t : T} {ts : List T} : alls (t :: ts) = t.all ++ alls ts := by rw [alls]
theorem alls_append (a b : List T) : alls (a ++ b) = alls a ++ alls b := by
 induction a with
 | nil => simp [alls_nil]
 | cons x a ih => simp only [List.cons_append, alls_cons, ih, List.append_assoc]
theorem all_induct {P : T → Prop} (h : ∀ t, (∀ k ∈ t.kids, P k) → P t) : ∀ t, P t := by
 have key : ∀ n (t : T), t.sz ≤ n → P t := by
  intro n
  induction n with
  | zero => intro t ht; rw [sz_eq] at ht; omega
  | succ n ih => intro t ht; exact h t fun k hk => ih k (by have := kid_sz hk; omega)
 exact fun t => key _ t (Nat.le_refl _)
def wt (l : List T) : Nat := (l.map fun t => 5 + t.bytes.length).sum
theorem wt_alls (n : Nat) : ∀ (l : List T), szs l ≤ n → wt (alls l) = szs l := by
 induction n with
 | zero => intro l h; cases l with
   | nil => simp [alls_nil, szs_nil, wt]
   | cons t l => rw [szs_cons, sz_eq t] at h; omega
 | succ n ih => intro l h; cases l with
   | nil => simp [alls_nil, szs_nil, wt]
   | cons t l =>
     have e := sz_eq t
     rw [szs_cons] at h
     have h1 := ih t.kids (by omega)
     have h2 := ih l (by omega)
     rw [alls_cons, all_eq, szs_cons, e]
     unfold wt at h1 h2 ⊢
     simp only [List.cons_append, List.map_cons, List.map_append, List.sum_cons, List.sum_append] at h1 h2 ⊢
     rw [h1, h2]; omega
theorem wt_all (t : T) : wt t.all = t.sz := by
 have h := wt_alls _ t.kids (Nat.le_refl _)
 rw [all_eq, sz_eq]
 unfold wt at h ⊢
 rw [List.map_cons, List.sum_cons, h]
theorem all_len (t : T) : 5 * t.all.length ≤ t.sz := by
 rw [← wt_all]
 unfold wt
 generalize t.all = l
 induction l with
 | nil => simp
 | cons x l ih => simp only [List.length_cons, List.map_cons, List.sum_cons]; omega
end T
mutual
def nodeC : T → List Vm.Data
 | .mk c g b s ks => [.int .i64 c, .int .i64 g, .bool b, .lst (bytesD s), .lst (nodesD ks)]
def nodesD : List T → List (List Vm.Data)
 | [] => []
 | t :: ts => nodeC t :: nodesD ts
end
theorem nodeC_eq (t : T) : nodeC t = [.int .i64 t.cls, .int .i64 t.tag, .bool t.cons, .lst (bytesD t.bytes), .lst (nodesD t.kids)] := by cases t; rw [nodeC]; rfl
theorem nodesD_nil : nodesD [] = [] := by rw [nodesD]
theorem nodesD_cons (t : T) (l : List T) : nodesD (t :: l) = nodeC t :: nodesD l := by rw [nodesD]
theorem nodesD_map (l : List T) : nodesD l = l.map nodeC := by
 induction l with
 | nil => rw [nodesD_nil]; rfl
 | cons t l ih => rw [nodesD_cons, ih]; rfl
theorem nodesD_len (l : List T) : (nodesD l).length = l.length := by rw [nodesD_map]; simp
theorem nodesD_append (a b : List T) : nodesD a ++ nodesD b = nodesD (a ++ b) := by simp only [nodesD_map, List.map_append]
theorem nodesD_take (l : List T) (n : Nat) : (nodesD l).take n = nodesD (l.take n) := by simp only [nodesD_map, List.map_take]
theorem nodesD_at {l : List T} {k : Nat} (h : k < l.length) : (nodesD l).getD k [] = [.int .i64 (l.getD k T.zero).cls, .int .i64 (l.getD k T.zero).tag, .bool (l.getD k T.zero).cons, .lst (bytesD (l.getD k T.zero).bytes), .lst (nodesD (l.getD k T.zero).kids)] := by
 rw [nodesD_map, List.getD_eq_getElem?_getD, List.getElem?_map, List.getElem?_eq_getElem h, List.getD_eq_getElem?_getD, List.getElem?_eq_getElem h]
 simp only [Option.map_some, Option.getD_some, nodeC_eq]
theorem nodesD_five (l : List T) : (∀ x ∈ nodesD l, x.length = 5) = True := by
 simp only [nodesD_map, List.mem_map, eq_iff_iff, iff_true]
 rintro x ⟨t, _, rfl⟩
 rw [nodeC_eq]; rfl
theorem nodes_inj (n : Nat) : ∀ (a b : List T), T.szs a ≤ n → nodesD a = nodesD b → a = b := by
 induction n with
 | zero =>
   intro a b ha h
   cases a with
   | cons t l => rw [T.szs_cons, T.sz_eq t] at ha; omega
   | nil => cases b with
     | nil => rfl
     | cons => rw [nodesD_nil, nodesD_cons] at h; cases h
 | succ n ih =>
   intro a b ha h
   cases a with
   | nil => cases b with
     | nil => rfl
     | cons => rw [nodesD_nil, nodesD_cons] at h; cases h
   | cons t l => cases b with
     | nil => rw [nodesD_nil, nodesD_cons] at h; cases h
     | cons u m =>
       rw [nodesD_cons, nodesD_cons] at h
       injection h with h1 h2
       rw [T.szs_cons, T.sz_eq t] at ha
       have hl := ih l m (by omega) h2
       cases t; cases u
       rw [nodeC, nodeC] at h1
       injection h1 with p1 h1; injection h1 with p2 h1; injection h1 with p3 h1; injection h1 with p4 h1; injection h1 with p5 h1
       injection p1 with _ p1; injection p2 with _ p2; injection p3 with p3; injection p4 with p4; injection p5 with p5
       have p4 := bytesD_inj.1 p4
       have p5 := ih _ _ (by simp only [T.kids_mk] at ha; omega) p5
       subst p1 p2 p3 p4 p5 hl; rfl
theorem nodesD_inj {a b : List T} : nodesD a = nodesD b ↔ a = b := ⟨nodes_inj _ a b (Nat.le_refl _), fun h => h ▸ rfl⟩
theorem nodeC_inj {a b : T} (h : nodeC a = nodeC b) : a = b := by
 have := nodesD_inj.1 (show nodesD [a] = nodesD [b] by rw [nodesD_cons, nodesD_cons, h])
 injection this
@[reducible] def ST : Sig := ⟨T, fun t => .agg (nodeC t), fun _ _ h => by injection h with h; exact nodeC_inj h⟩
@[reducible] def SL : Sig := ⟨List T, fun l => .lst (nodesD l), fun _ _ h => by injection h with h; exact nodesD_inj.1 h⟩
theorem ST_enc {t : T} : ST.enc t = .agg (nodeC t) := rfl
theorem ST_dec {c g : Int} {b : Bool} {s : List UInt8} {ks : List T} : ST.dec (.agg [.int .i64 c, .int .i64 g, .bool b, .lst (bytesD s), .lst (nodesD ks)]) = some (.mk c g b s ks) := by
 have := ST.dec_enc (T.mk c g b s ks)
 rwa [ST_enc, nodeC] at this
noncomputable def decN (xs : List (List Vm.Data)) : Option (List T) := by
 classical exact if h : ∃ l, nodesD l = xs then some (Classical.choose h) else none
theorem decN_nodes {l : List T} : decN (nodesD l) = some l := by
 have h : ∃ m, nodesD m = nodesD l := ⟨l, rfl⟩
 unfold decN
 rw [dif_pos h]
 exact congrArg some (nodesD_inj.1 (Classical.choose_spec h))
theorem decN_nil : decN [] = some [] := by rw [← nodesD_nil]; exact decN_nodes
theorem decN_some {xs : List (List Vm.Data)} {l : List T} (h : decN xs = some l) : nodesD l = xs := by
 unfold decN at h
 split at h
 ·rename_i h'
  simp only [Option.some.injEq] at h
  rw [← h]; exact Classical.choose_spec h'
 ·cases h
def consO (t : T) : Option (List T) → Option (List T)
 | some l => some (t :: l)
 | none => none
theorem consO_some {t : T} {l : List T} : consO t (some l) = some (t :: l) := rfl
theorem decN_cons {c g : Int} {b : Bool} {s : List UInt8} {ks : List T} {xs : List (List Vm.Data)} : decN ([.int .i64 c, .int .i64 g, .bool b, .lst (bytesD s), .lst (nodesD ks)] :: xs) = consO (.mk c g b s ks) (decN xs) := by
 cases hx : decN xs with
 | some l =>
   obtain rfl := decN_some hx
   rw [consO_some, ← nodeC, ← nodesD_cons, decN_nodes]
 | none =>
   unfold consO
   cases hy : decN ([.int .i64 c, .int .i64 g, .bool b, .lst (bytesD s), .lst (nodesD ks)] :: xs) with
   | none => rfl
   | some m =>
     exfalso
     have := decN_some hy
     cases m with
     | nil => rw [nodesD_nil] at this; cases this
     | cons u m =>
       rw [nodesD_cons] at this
       injection this with _ h2
       rw [← h2, decN_nodes] at hx; cases hx
theorem SL_dec {xs : List (List Vm.Data)} : SL.dec (.lst xs) = decN xs := by
 cases hx : decN xs with
 | some l =>
   obtain rfl := decN_some hx
   exact SL.dec_enc l
 | none =>
   cases hy : SL.dec (.lst xs) with
   | none => rfl
   | some m =>
     exfalso
     have this : Vm.Data.lst (nodesD m) = .lst xs := Sig.dec_some hy
     injection this with this
     have e := @decN_nodes m
     rw [this, hx] at e; cases e
noncomputable def apN {β : Type} (z : β) (ss : List Sig) (f : Fun (SL :: ss) β) (o : Option (List T)) (ds : List Vm.Data) : β :=
 match o with
 | some l => ap z ss (f l) ds
 | none => z
section
variable {β : Type} {z : β} {ss : List Sig} {ds : List Vm.Data}
theorem ap_ST {f : Fun (ST :: ss) β} {c g : Int} {b : Bool} {s : List UInt8} {ks : List T} : ap z (ST :: ss) f (.agg [.int .i64 c, .int .i64 g, .bool b, .lst (bytesD s), .lst (nodesD ks)] :: ds) = ap z ss (f (T.mk c g b s ks)) ds := by rw [ap_cons, ST_dec, apO_some]
theorem ap_ST1 {f : Fun (ST :: ss) β} {c g : Int} {b : Bool} {ks : List T} : ap z (ST :: ss) f (.agg [.int .i64 c, .int .i64 g, .bool b, .lst [], .lst (nodesD ks)] :: ds) = ap z ss (f (T.mk c g b [] ks)) ds := ap_ST (s := [])
theorem ap_SL {f : Fun (SL :: ss) β} {xs : List (List Vm.Data)} : ap z (SL :: ss) f (.lst xs :: ds) = apN z ss f (decN xs) ds := by
 rw [ap_cons, SL_dec]
 cases decN xs <;> rfl
theorem apN_some {f : Fun (SL :: ss) β} {l : List T} : apN z ss f (some l) ds = ap z ss (f l) ds := rfl
end
def seqT (l : List T) : T := .mk 0 16 true [] l
def setT (l : List T) : T := .mk 0 17 true [] l
def inT (g : Int) (l : List T) : T := .mk 2 g true [] l
def primT (g : Int) (b : List UInt8) : T := .mk 0 g false b []
attribute [go_sem] T.cls_mk T.tag_mk T.cons_mk T.bytes_mk T.kids_mk T.eta nodeC_eq ST_enc ap_ST ap_ST1 ap_SL apN_some decN_nodes decN_nil decN_cons consO_some nodesD_len nodesD_five nodesD_take nodesD_append
theorem trE : ∀ (l : List T) (k : Nat), k < l.length → (nodesD l).getD k [] = [.int .i64 (l.getD k T.zero).cls, .int .i64 (l.getD k T.zero).tag, .bool (l.getD k T.zero).cons, .lst (bytesD (l.getD k T.zero).bytes), .lst (nodesD (l.getD k T.zero).kids)] := fun _ _ h => nodesD_at h
end Go.Proofs.YtpajpkbipagjpaaGreatDoor.Tr
namespace Go.Proofs.YtpajpkbipagjpaaGreatDoor.Oc
open Go Go.RowKit Go.Proofs.YtpajpkbipagjpaaGreatDoor.Vm Go.Proofs.YtpajpkbipagjpaaGreatDoor.Tr Go.IntWalk
set_option maxRecDepth 100000
set_option maxHeartbeats 4000000
def knownP : List (List UInt8 × List UInt8) := [([115, 104, 97, 50, 50, 52], [50, 46, 49, 54, 46, 56, 52, 48, 46, 49, 46, 49, 48, 49, 46, 51, 46, 52, 46, 50, 46, 52]), ([115, 104, 97, 50, 53, 54], [50, 46, 49, 54, 46, 56, 52, 48, 46, 49, 46, 49, 48, 49, 46, 51, 46, 52, 46, 50, 46, 49]), ([115, 104, 97, 51, 56, 52], [50, 46, 49, 54, 46, 56, 52, 48, 46, 49, 46, 49, 48, 49, 46, 51, 46, 52, 46, 50, 46, 50]), ([115, 104, 97, 53, 49, 50], [50, 46, 49, 54, 46, 56, 52, 48, 46, 49, 46, 49, 48, 49, 46, 51, 46, 52, 46, 50, 46, 51]), ([114, 115, 97], [49, 46, 50, 46, 56, 52, 48, 46, 49, 49, 51, 53, 52, 57, 46, 49, 46, 49, 46, 49]), ([109, 103, 102, 49], [49, 46, 50, 46, 56, 52, 48, 46, 49, 49, 51, 53, 52, 57, 46, 49, 46, 49, 46, 56]), ([112, 115, 115], [49, 46, 50, 46, 56, 52, 48, 46, 49, 49, 51, 53, 52, 57, 46, 49, 46, 49, 46, 49, 48]), ([114, 115, 97, 50, 50, 52], [49, 46, 50, 46, 56, 52, 48, 46, 49, 49, 51, 53, 52, 57, 46, 49, 46, 49, 46, 49, 52]), ([114, 115, 97, 50, 53, 54], [49, 46, 50, 46, 56, 52, 48, 46, 49, 49, 51, 53, 52, 57, 46, 49, 46, 49, 46, 49, 49]), ([114, 115, 97, 51, 56, 52], [49, 46, 50, 46, 56, 52, 48, 46, 49, 49, 51, 53, 52, 57, 46, 49, 46, 49, 46, 49, 50]), ([114, 115, 97, 53, 49, 50], [49, 46, 50, 46, 56, 52, 48, 46, 49, 49, 51, 53, 52, 57, 46, 49, 46, 49, 46, 49, 51]), ([100, 97, 116, 97], [49, 46, 50, 46, 56, 52, 48, 46, 49, 49, 51, 53, 52, 57, 46, 49, 46, 55, 46, 49]), ([115, 105, 103, 110, 101, 100], [49, 46, 50, 46, 56, 52, 48, 46, 49, 49, 51, 53, 52, 57, 46, 49, 46, 55, 46, 50]), ([99, 111, 110, 116, 101, 110, 116, 84, 121, 112, 101], [49, 46, 50, 46, 56, 52, 48, 46, 49, 49, 51, 53, 52, 57, 46, 49, 46, 57, 46, 51]), ([109, 101, 115, 115, 97, 103, 101, 68, 105, 103, 101, 115, 116], [49, 46, 50, 46, 56, 52, 48, 46, 49, 49, 51, 53, 52, 57, 46, 49, 46, 57, 46, 52]), ([115, 105, 103, 110, 105, 110, 103, 84, 105, 109, 101], [49, 46, 50, 46, 56, 52, 48, 46, 49, 49, 51, 53, 52, 57, 46, 49, 46, 57, 46, 53]), ([99, 111, 117, 110, 116, 101, 114, 115, 105, 103, 110, 97, 116, 117, 114, 101], [49, 46, 50, 46, 56, 52, 48, 46, 49, 49, 51, 53, 52, 57, 46, 49, 46, 57, 46, 54]), ([116, 115, 116, 73, 110, 102, 111], [49, 46, 50, 46, 56, 52, 48, 46, 49, 49, 51, 53, 52, 57, 46, 49, 46, 57, 46, 49, 54, 46, 49, 46, 52]), ([115, 105, 103, 110, 105, 110, 103, 67, 101, 114, 116, 105, 102, 105, 99, 97, 116, 101, 86, 50], [49, 46, 50, 46, 56, 52, 48, 46, 49, 49, 51, 53, 52, 57, 46, 49, 46, 57, 46, 49, 54, 46, 50, 46, 52, 55]), ([99, 111, 109, 109, 111, 110, 78, 97, 109, 101], [50, 46, 53, 46, 52, 46, 51]), ([99, 111, 117, 110, 116, 114, 121, 78, 97, 109, 101], [50, 46, 53, 46, 52, 46, 54]), ([111, 114, 103, 97, 110, 105, 122, 97, 116, 105, 111, 110, 78, 97, 109, 101], [50, 46, 53, 46, 52, 46, 49, 48]), ([107, 101, 121, 85, 115, 97, 103, 101], [50, 46, 53, 46, 50, 57, 46, 49, 53]), ([98, 97, 115, 105, 99, 67, 111, 110, 115, 116, 114, 97, 105, 110, 116, 115], [50, 46, 53, 46, 50, 57, 46, 49, 57]), ([101, 120, 116, 75, 101, 121, 85, 115, 97, 103, 101], [50, 46, 53, 46, 50, 57, 46, 51, 55]), ([116, 105, 109, 101, 83, 116, 97, 109, 112, 105, 110, 103], [49, 46, 51, 46, 54, 46, 49, 46, 53, 46, 53, 46, 55, 46, 51, 46, 56])]
def knownCs (l : List (List UInt8 × List UInt8)) : List Vm.Data := l.flatMap fun x => [.str x.1, .str x.2]
def powD : List Vm.Data := (List.range 20).map fun j => .int .u64 ((10 ^ j : Nat) : Int)
def errD : Vm.Data := .iface 351 (.ptr [])
def sizesD : List Vm.Data := [.int .i64 0, .int .i64 224, .int .i64 256, .int .i64 384, .int .i64 512]
def fstU (i : Nat) : Nat := if i < 128 then 240 else if i < 194 then 241 else if i < 224 then 2 else if i = 224 then 19 else if i < 237 then 3 else if i = 237 then 35 else if i < 240 then 3 else if i = 240 then 52 else if i < 244 then 4 else if i = 244 then 68 else 241
def firstD : List Vm.Data := (List.range 256).map fun i => .int .u8 (fstU i : Int)
def acceptD : List Vm.Data := [.int .u8 128, .int .u8 191, .int .u8 160, .int .u8 191, .int .u8 128, .int .u8 159, .int .u8 144, .int .u8 191, .int .u8 128, .int .u8 143, .int .u8 0, .int .u8 0, .int .u8 0, .int .u8 0, .int .u8 0, .int .u8 0, .int .u8 0, .int .u8 0, .int .u8 0, .int .u8 0, .int .u8 0, .int .u8 0, .int .u8 0, .int .u8 0, .int .u8 0, .int .u8 0, .int .u8 0, .int .u8 0, .int .u8 0, .int .u8 0, .int .u8 0, .int .u8 0]
def kindsB : List (List UInt8) := [[], [99, 111, 109, 109, 111, 110, 78, 97, 109, 101], [111, 114, 103, 97, 110, 105, 122, 97, 116, 105, 111, 110, 78, 97, 109, 101], [99, 111, 117, 110, 116, 114, 121, 78, 97, 109, 101]]
def kindsD : List Vm.Data := kindsB.map .str
def Gl : Nat → Option (List Vm.Data)
 | 1 => some (knownCs knownP)
 | 2 => some sizesD
 | 3 => some [errD]
 | 4 => some [errD]
 | 5 => some powD
 | 6 => some firstD
 | 7 => some acceptD
 | _ => none
def Gl1 : Nat → Option (List Vm.Data)
 | 0 => some kindsD
 | n => Gl n
noncomputable def E : Env := ⟨Tryz.prog, Gl⟩
noncomputable def E1 : Env := ⟨Tryz.prog, Gl1⟩
@[go_sem] theorem E_P : E.P = Tryz.prog ∧ E1.P = Tryz.prog := ⟨rfl, rfl⟩
@[go_sem] theorem E_G : E.G 1 = some (knownCs knownP) ∧ E.G 2 = some sizesD ∧ E.G 3 = some [errD] ∧ E.G 4 = some [errD] ∧ E.G 5 = some powD ∧ E.G 6 = some firstD ∧ E.G 7 = some acceptD ∧ E1.G 0 = some kindsD := ⟨rfl, rfl, rfl, rfl, rfl, rfl, rfl, rfl⟩
theorem glob1 {w : World} {J : Cset} (h : Glob E1 w J) : Glob E w J := fun g cs hg => h g cs (by
 show Gl1 g = some cs
 have hg' : Gl g = some cs := hg
 match g, hg' with
 | 0, h => cases h
 | n + 1, h => exact h)
theorem lift1 {f : Nat} {p : PFn} (h : Pure E f p) : Pure E1 f p := fun w J args ds hJ hG => h w J args ds hJ (glob1 hG)
theorem tmodn {a b : Int} (h : 0 ≤ a) : a.tmod b = a % b := Int.tmod_eq_emod_of_nonneg h
theorem tdivn {a b : Int} (h : 0 ≤ a) : a.tdiv b = a / b := Int.tdiv_eq_ediv_of_nonneg h
@[go_sem] theorem k2 : kindT Tryz.prog 2 = .int .i64 ∧ szT Tryz.prog 2 = 1 ∧ posT Tryz.prog 2 = true ∧ bytesT Tryz.prog 2 = 8 := ⟨by kernel_rfl, by kernel_rfl, by kernel_rfl, by kernel_rfl⟩
@[go_sem] theorem k3 : kindT Tryz.prog 3 = .int .i64 ∧ szT Tryz.prog 3 = 1 ∧ posT Tryz.prog 3 = true ∧ bytesT Tryz.prog 3 = 8 := ⟨by kernel_rfl, by kernel_rfl, by kernel_rfl, by kernel_rfl⟩
@[go_sem] theorem k4 : kindT Tryz.prog 4 = .bool ∧ szT Tryz.prog 4 = 1 ∧ posT Tryz.prog 4 = true ∧ bytesT Tryz.prog 4 = 1 := ⟨by kernel_rfl, by kernel_rfl, by kernel_rfl, by kernel_rfl⟩
@[go_sem] theorem k5 : kindT Tryz.prog 5 = .int .u8 ∧ szT Tryz.prog 5 = 1 ∧ posT Tryz.prog 5 = true ∧ bytesT Tryz.prog 5 = 1 := ⟨by kernel_rfl, by kernel_rfl, by kernel_rfl, by kernel_rfl⟩
@[go_sem] theorem k9 : kindT Tryz.prog 9 = .str ∧ szT Tryz.prog 9 = 1 ∧ posT Tryz.prog 9 = true ∧ bytesT Tryz.prog 9 = 16 := ⟨by kernel_rfl, by kernel_rfl, by kernel_rfl, by kernel_rfl⟩
@[go_sem] theorem k12 : kindT Tryz.prog 12 = .int .u64 ∧ szT Tryz.prog 12 = 1 ∧ posT Tryz.prog 12 = true ∧ bytesT Tryz.prog 12 = 8 := ⟨by kernel_rfl, by kernel_rfl, by kernel_rfl, by kernel_rfl⟩
@[go_sem] theorem k22 : kindT Tryz.prog 22 = .slice 5 ∧ szT Tryz.prog 22 = 1 ∧ posT Tryz.prog 22 = true ∧ bytesT Tryz.prog 22 = 24 := ⟨by kernel_rfl, by kernel_rfl, by kernel_rfl, by kernel_rfl⟩
@[go_sem] theorem k23 : kindT Tryz.prog 23 = .slice 25 ∧ szT Tryz.prog 23 = 1 ∧ posT Tryz.prog 23 = true ∧ bytesT Tryz.prog 23 = 24 := ⟨by kernel_rfl, by kernel_rfl, by kernel_rfl, by kernel_rfl⟩
@[go_sem] theorem k25 : kindT Tryz.prog 25 = .struct [(0, 3), (1, 3), (2, 4), (3, 22), (4, 23)] ∧ szT Tryz.prog 25 = 5 ∧ posT Tryz.prog 25 = true ∧ bytesT Tryz.prog 25 = 72 := ⟨by kernel_rfl, by kernel_rfl, by kernel_rfl, by kernel_rfl⟩
@[go_sem] theorem k27 : kindT Tryz.prog 27 = .int .i64 ∧ szT Tryz.prog 27 = 1 ∧ posT Tryz.prog 27 = true ∧ bytesT Tryz.prog 27 = 8 := ⟨by kernel_rfl, by kernel_rfl, by kernel_rfl, by kernel_rfl⟩
@[go_sem] theorem k30 : kindT Tryz.prog 30 = .int .i64 ∧ szT Tryz.prog 30 = 1 ∧ posT Tryz.prog 30 = true ∧ bytesT Tryz.prog 30 = 8 := ⟨by kernel_rfl, by kernel_rfl, by kernel_rfl, by kernel_rfl⟩
@[go_sem] theorem k34 : kindT Tryz.prog 34 = .int .i64 ∧ szT Tryz.prog 34 = 1 ∧ posT Tryz.prog 34 = true ∧ bytesT Tryz.prog 34 = 8 := ⟨by kernel_rfl, by kernel_rfl, by kernel_rfl, by kernel_rfl⟩
@[go_sem] theorem k48 : kindT Tryz.prog 48 = .slice 52 ∧ szT Tryz.prog 48 = 1 ∧ posT Tryz.prog 48 = true ∧ bytesT Tryz.prog 48 = 24 := ⟨by kernel_rfl, by kernel_rfl, by kernel_rfl, by kernel_rfl⟩
@[go_sem] theorem k52 : kindT Tryz.prog 52 = .struct [(0, 3), (1, 9), (2, 4)] ∧ szT Tryz.prog 52 = 3 ∧ posT Tryz.prog 52 = true ∧ bytesT Tryz.prog 52 = 32 := ⟨by kernel_rfl, by kernel_rfl, by kernel_rfl, by kernel_rfl⟩
@[go_sem] theorem k68 : kindT Tryz.prog 68 = .struct [(0, 22), (1, 22), (2, 22)] ∧ szT Tryz.prog 68 = 3 ∧ posT Tryz.prog 68 = true ∧ bytesT Tryz.prog 68 = 72 := ⟨by kernel_rfl, by kernel_rfl, by kernel_rfl, by kernel_rfl⟩
@[go_sem] theorem k69 : kindT Tryz.prog 69 = .slice 84 ∧ szT Tryz.prog 69 = 1 ∧ posT Tryz.prog 69 = true ∧ bytesT Tryz.prog 69 = 24 := ⟨by kernel_rfl, by kernel_rfl, by kernel_rfl, by kernel_rfl⟩
@[go_sem] theorem k71 : kindT Tryz.prog 71 = .struct [(0, 22), (1, 34), (2, 30), (3, 48), (4, 2), (5, 2), (6, 48), (7, 68), (10, 69), (11, 22)] ∧ szT Tryz.prog 71 = 12 ∧ posT Tryz.prog 71 = true ∧ bytesT Tryz.prog 71 = 224 := ⟨by kernel_rfl, by kernel_rfl, by kernel_rfl, by kernel_rfl⟩
@[go_sem] theorem k82 : kindT Tryz.prog 82 = .slice 22 ∧ szT Tryz.prog 82 = 1 ∧ posT Tryz.prog 82 = true ∧ bytesT Tryz.prog 82 = 24 := ⟨by kernel_rfl, by kernel_rfl, by kernel_rfl, by kernel_rfl⟩
@[go_sem] theorem k84 : kindT Tryz.prog 84 = .struct [(0, 22), (1, 4), (2, 22)] ∧ szT Tryz.prog 84 = 3 ∧ posT Tryz.prog 84 = true ∧ bytesT Tryz.prog 84 = 56 := ⟨by kernel_rfl, by kernel_rfl, by kernel_rfl, by kernel_rfl⟩
@[go_sem] theorem k111 : kindT Tryz.prog 111 = .slice 9 ∧ szT Tryz.prog 111 = 1 ∧ posT Tryz.prog 111 = true ∧ bytesT Tryz.prog 111 = 24 := ⟨by kernel_rfl, by kernel_rfl, by kernel_rfl, by kernel_rfl⟩
@[go_sem] theorem k123 : kindT Tryz.prog 123 = .arr 4 9 ∧ szT Tryz.prog 123 = 4 ∧ posT Tryz.prog 123 = true ∧ bytesT Tryz.prog 123 = 64 := ⟨by kernel_rfl, by kernel_rfl, by kernel_rfl, by kernel_rfl⟩
@[go_sem] theorem k143 : kindT Tryz.prog 143 = .ptr ∧ szT Tryz.prog 143 = 1 ∧ posT Tryz.prog 143 = true ∧ bytesT Tryz.prog 143 = 8 := ⟨by kernel_rfl, by kernel_rfl, by kernel_rfl, by kernel_rfl⟩
@[go_sem] theorem k149 : kindT Tryz.prog 149 = .arr 2 9 ∧ szT Tryz.prog 149 = 2 ∧ posT Tryz.prog 149 = true ∧ bytesT Tryz.prog 149 = 32 := ⟨by kernel_rfl, by kernel_rfl, by kernel_rfl, by kernel_rfl⟩
@[go_sem] theorem k150 : kindT Tryz.prog 150 = .arr 26 149 ∧ szT Tryz.prog 150 = 52 ∧ posT Tryz.prog 150 = true ∧ bytesT Tryz.prog 150 = 832 := ⟨by kernel_rfl, by kernel_rfl, by kernel_rfl, by kernel_rfl⟩
@[go_sem] theorem k151 : kindT Tryz.prog 151 = .slice 158 ∧ szT Tryz.prog 151 = 1 ∧ posT Tryz.prog 151 = true ∧ bytesT Tryz.prog 151 = 24 := ⟨by kernel_rfl, by kernel_rfl, by kernel_rfl, by kernel_rfl⟩
@[go_sem] theorem k158 : kindT Tryz.prog 158 = .int .u64 ∧ szT Tryz.prog 158 = 1 ∧ posT Tryz.prog 158 = true ∧ bytesT Tryz.prog 158 = 8 := ⟨by kernel_rfl, by kernel_rfl, by kernel_rfl, by kernel_rfl⟩
@[go_sem] theorem k159 : kindT Tryz.prog 159 = .func ∧ szT Tryz.prog 159 = 1 ∧ posT Tryz.prog 159 = true ∧ bytesT Tryz.prog 159 = 8 := ⟨by kernel_rfl, by kernel_rfl, by kernel_rfl, by kernel_rfl⟩
@[go_sem] theorem k181 : kindT Tryz.prog 181 = .slice 3 ∧ szT Tryz.prog 181 = 1 ∧ posT Tryz.prog 181 = true ∧ bytesT Tryz.prog 181 = 24 := ⟨by kernel_rfl, by kernel_rfl, by kernel_rfl, by kernel_rfl⟩
@[go_sem] theorem k198 : kindT Tryz.prog 198 = .iface ∧ szT Tryz.prog 198 = 1 ∧ posT Tryz.prog 198 = true ∧ bytesT Tryz.prog 198 = 16 := ⟨by kernel_rfl, by kernel_rfl, by kernel_rfl, by kernel_rfl⟩
@[go_sem] theorem k212 : kindT Tryz.prog 212 = .arr 5 3 ∧ szT Tryz.prog 212 = 5 ∧ posT Tryz.prog 212 = true ∧ bytesT Tryz.prog 212 = 40 := ⟨by kernel_rfl, by kernel_rfl, by kernel_rfl, by kernel_rfl⟩
@[go_sem] theorem k266 : kindT Tryz.prog 266 = .struct [(0, 3), (1, 3), (2, 3)] ∧ szT Tryz.prog 266 = 3 ∧ posT Tryz.prog 266 = true ∧ bytesT Tryz.prog 266 = 24 := ⟨by kernel_rfl, by kernel_rfl, by kernel_rfl, by kernel_rfl⟩
@[go_sem] theorem k328 : kindT Tryz.prog 328 = .func ∧ szT Tryz.prog 328 = 1 ∧ posT Tryz.prog 328 = true ∧ bytesT Tryz.prog 328 = 8 := ⟨by kernel_rfl, by kernel_rfl, by kernel_rfl, by kernel_rfl⟩
@[go_sem] theorem k347 : kindT Tryz.prog 347 = .arr 256 5 ∧ szT Tryz.prog 347 = 256 ∧ posT Tryz.prog 347 = true ∧ bytesT Tryz.prog 347 = 256 := ⟨by kernel_rfl, by kernel_rfl, by kernel_rfl, by kernel_rfl⟩
@[go_sem] theorem k349 : kindT Tryz.prog 349 = .struct [(0, 5), (1, 5)] ∧ szT Tryz.prog 349 = 2 ∧ posT Tryz.prog 349 = true ∧ bytesT Tryz.prog 349 = 2 := ⟨by kernel_rfl, by kernel_rfl, by kernel_rfl, by kernel_rfl⟩
@[go_sem] theorem k350 : kindT Tryz.prog 350 = .arr 16 349 ∧ szT Tryz.prog 350 = 32 ∧ posT Tryz.prog 350 = true ∧ bytesT Tryz.prog 350 = 32 := ⟨by kernel_rfl, by kernel_rfl, by kernel_rfl, by kernel_rfl⟩
@[go_sem] theorem z2 : zeroT Tryz.prog 2 = some [.dat (.int .i64 0)] := by kernel_rfl
@[go_sem] theorem z3 : zeroT Tryz.prog 3 = some [.dat (.int .i64 0)] := by kernel_rfl
@[go_sem] theorem z4 : zeroT Tryz.prog 4 = some [.dat (.bool false)] := by kernel_rfl
@[go_sem] theorem z25 : zeroT Tryz.prog 25 = some [.dat (.int .i64 0), .dat (.int .i64 0), .dat (.bool false), .nilsl, .nilsl] := by kernel_rfl
@[go_sem] theorem z27 : zeroT Tryz.prog 27 = some [.dat (.int .i64 0)] := by kernel_rfl
@[go_sem] theorem z52 : zeroT Tryz.prog 52 = some [.dat (.int .i64 0), .dat (.str []), .dat (.bool false)] := by kernel_rfl
@[go_sem] theorem z71 : zeroT Tryz.prog 71 = some [.nilsl, .dat (.int .i64 0), .dat (.int .i64 0), .nilsl, .dat (.int .i64 0), .dat (.int .i64 0), .nilsl, .nilsl, .nilsl, .nilsl, .nilsl, .nilsl] := by kernel_rfl
@[go_sem] theorem z84 : zeroT Tryz.prog 84 = some [.nilsl, .dat (.bool false), .nilsl] := by kernel_rfl
@[go_sem] theorem z149 : zeroT Tryz.prog 149 = some [.dat (.str []), .dat (.str [])] := by kernel_rfl
@[go_sem] theorem z266 : zeroT Tryz.prog 266 = some [.dat (.int .i64 0), .dat (.int .i64 0), .dat (.int .i64 0)] := by kernel_rfl
@[go_sem] theorem z296 : zeroT Tryz.prog 296 = some [.dat (.int .u8 0), .dat (.int .u8 0), .dat (.int .u8 0), .dat (.int .u8 0), .dat (.int .u8 0), .dat (.int .u8 0), .dat (.int .u8 0), .dat (.int .u8 0), .dat (.int .u8 0), .dat (.int .u8 0), .dat (.int .u8 0), .dat (.int .u8 0), .dat (.int .u8 0), .dat (.int .u8 0), .dat (.int .u8 0), .dat (.int .u8 0), .dat (.int .u8 0), .dat (.int .u8 0), .dat (.int .u8 0), .dat (.int .u8 0), .dat (.int .u8 0), .dat (.int .u8 0), .dat (.int .u8 0), .dat (.int .u8 0)] := by kernel_rfl
@[go_sem] theorem z349 : zeroT Tryz.prog 349 = some [.dat (.int .u8 0), .dat (.int .u8 0)] := by kernel_rfl
@[go_sem] theorem z22 : zeroT Tryz.prog 22 = some [.nilsl] := by kernel_rfl
@[go_sem] theorem z151 : zeroT Tryz.prog 151 = some [.nilsl] := by kernel_rfl
@[go_sem] theorem z5 : zeroT Tryz.prog 5 = some [.dat (.int .u8 0)] := by kernel_rfl
@[go_sem] theorem z158 : zeroT Tryz.prog 158 = some [.dat (.int .u64 0)] := by kernel_rfl
@[go_sem] theorem z9 : zeroT Tryz.prog 9 = some [.dat (.str [])] := by kernel_rfl
@[go_sem] theorem e22 : elemT Tryz.prog 22 = some (5, 1) := by kernel_rfl
@[go_sem] theorem e23 : elemT Tryz.prog 23 = some (25, 5) := by kernel_rfl
@[go_sem] theorem e111 : elemT Tryz.prog 111 = some (9, 1) := by kernel_rfl
@[go_sem] theorem e151 : elemT Tryz.prog 151 = some (158, 1) := by kernel_rfl
@[go_sem] theorem q52 : structEqOK Tryz.prog 52 = true := by kernel_rfl
end Go.Proofs.YtpajpkbipagjpaaGreatDoor.Oc
namespace Go.Proofs
open Go.Shelf
def Tryz.lays156_ren : Go.Shelf.Ren := ⟨fun | 156 => 157 | 165 => 207 | 166 => 208 | 169 => 144 | 240 => 194 | 241 => 249 | 276 => 234 | 277 => 290 | n => n, fun | 31 => 111 | 9 => 9 | 3 => 3 | 4 => 4 | 0 => 0 | 20 => 20 | 72 => 196 | 76 => 259 | 70 => 194 | 37 => 22 | 75 => 198 | 127 => 246 | 164 => 285 | 5 => 5 | 80 => 200 | n => n, fun | n => n⟩
theorem Tryz.lays156 : Go.Proofs.Lays.n156 Tryz.prog Tryz.lays156_ren := {
 mixed := by kernel_rfl
 f156 := Tryz.func157.trans (congrArg some (by kernel_rfl))
 f165 := Tryz.func207.trans (congrArg some (by kernel_rfl))
 f166 := Tryz.func208.trans (congrArg some (by kernel_rfl))
 f169 := Tryz.func144.trans (congrArg some (by kernel_rfl))
 f240 := Tryz.func194.trans (congrArg some (by kernel_rfl))
 f241 := Tryz.func249.trans (congrArg some (by kernel_rfl))
 f276 := Tryz.func234.trans (congrArg some (by kernel_rfl))
 f277 := Tryz.func290.trans (congrArg some (by kernel_rfl))
 t0 := Tryz.underlying0
 a0 := Tryz.isAgg0
 z0 := Tryz.sizeOf0
 v0 := Tryz.zeroValue0
 t3 := Tryz.underlying3
 a3 := Tryz.isAgg3
 z3 := Tryz.sizeOf3
 v3 := Tryz.zeroValue3
 t4 := Tryz.underlying4
 a4 := Tryz.isAgg4
 z4 := Tryz.sizeOf4
 v4 := Tryz.zeroValue4
 t9 := Tryz.underlying9
 a9 := Tryz.isAgg9
 z9 := Tryz.sizeOf9
 v9 := Tryz.zeroValue9
 t20 := Tryz.underlying20
 a20 := Tryz.isAgg20
 z20 := Tryz.sizeOf20
 v20 := Tryz.zeroValue20
 t31 := Tryz.underlying111
 a31 := Tryz.isAgg111
 z31 := Tryz.sizeOf111
 v31 := Tryz.zeroValue111
 t37 := Tryz.underlying22
 a37 := Tryz.isAgg22
 z37 := Tryz.sizeOf22
 v37 := Tryz.zeroValue22
 t70 := Tryz.underlying194
 a70 := Tryz.isAgg194
 z70 := Tryz.sizeOf194
 v70 := Tryz.zeroValue194
 t72 := Tryz.underlying196
 a72 := Tryz.isAgg196
 z72 := Tryz.sizeOf196
 v72 := Tryz.zeroValue196
 t75 := Tryz.underlying198
 a75 := Tryz.isAgg198
 z75 := Tryz.sizeOf198
 v75 := Tryz.zeroValue198
 t76 := Tryz.underlying259
 a76 := Tryz.isAgg259
 z76 := Tryz.sizeOf259
 v76 := Tryz.zeroValue259
 t127 := Tryz.underlying246
 a127 := Tryz.isAgg246
 z127 := Tryz.sizeOf246
 v127 := Tryz.zeroValue246
 t164 := Tryz.underlying285
 a164 := Tryz.isAgg285
 z164 := Tryz.sizeOf285
 v164 := Tryz.zeroValue285 }
theorem Tryz.Builder_Extra_156 : Builder.Extra Tryz.prog Tryz.lays156_ren := {
 sizeBuilder := by kernel_rfl
 liesBuilder := by kernel_rfl
 t5 := Tryz.underlying5
 a5 := Tryz.isAgg5
 z5 := Tryz.sizeOf5
 v5 := Tryz.zeroValue5
 infoByte := by kernel_rfl
 cellsByte := by kernel_rfl
 sizeByte := by kernel_rfl
 neB5 := by decide }
open Go.RowKit in
theorem Tryz.strings_Join_none (a : Option Addr) (c : Nat) (sep : ByteArray) (w : World) :
 Calls Tryz.prog 157 #[.slice a 0 c, .string sep] w fun e w' => e = .returned (.string ⟨#[]⟩) ∧ w' = w := Any.strings_Join_none Tryz.lays156 Tryz.Builder_Extra_156 a c sep w
open Go.RowKit in
theorem Tryz.strings_Join (bk o c : Nat) (xs : List ByteArray) (sep : ByteArray) (w : World) (hcells : ∀ (j : Nat) x, xs[j]? = some x → w.cell? ⟨bk, o + j, none⟩ = some (.string x)) (hbk : bk < w.heap.size) (hN : xs.length ≤ 140737488355328) (hcap : xs.length ≤ c) (hlen : (Lib.join (xs.map (·.data.toList)) sep.data.toList).length ≤ 140737488355328) :
 Calls Tryz.prog 157 #[.slice (some ⟨bk, o, none⟩) xs.length c, .string sep] w fun e w' => e = .returned (.string ⟨(Lib.join (xs.map (·.data.toList)) sep.data.toList).toArray⟩) ∧ Below w.heap.size w w' := Any.strings_Join Tryz.lays156 Tryz.Builder_Extra_156 bk o c xs sep w hcells hbk hN hcap hlen
def Tryz.lays283_ren : Go.Shelf.Ren := ⟨fun | 283 => 244 | n => n, fun | 3 => 3 | 9 => 9 | 4 => 4 | n => n, fun | n => n⟩
theorem Tryz.lays283 : Go.Proofs.Lays.n283 Tryz.prog Tryz.lays283_ren := {
 mixed := by kernel_rfl
 f283 := Tryz.func244.trans (congrArg some (by kernel_rfl))
 t3 := Tryz.underlying3
 a3 := Tryz.isAgg3
 z3 := Tryz.sizeOf3
 v3 := Tryz.zeroValue3
 t4 := Tryz.underlying4
 a4 := Tryz.isAgg4
 z4 := Tryz.sizeOf4
 v4 := Tryz.zeroValue4
 t9 := Tryz.underlying9
 a9 := Tryz.isAgg9
 z9 := Tryz.sizeOf9
 v9 := Tryz.zeroValue9 }
open Go.Lib in
theorem Tryz.internal_strconv_small (i : Nat) (h : i < 100) (w : World) :
 Calls Tryz.prog 244 #[.int .i64 i] w fun e w' => e = .returned (.string ⟨(Lib.decDigits i).toArray⟩) ∧ w' = w := Any.internal_strconv_small Tryz.lays283 i h w
def Tryz.laysM284_ren : Go.Shelf.Ren := ⟨fun | 284 => 245 | 129 => 285 | 317 => 284 | 318 => 286 | n => n, fun | 53 => 158 | 3 => 3 | 212 => 323 | 0 => 0 | 4 => 4 | 46 => 157 | 5 => 5 | 9 => 9 | n => n, fun | 17 => 5 | n => n⟩
theorem Tryz.laysM284 : Go.Proofs.LaysM.n284 Tryz.prog Tryz.laysM284_ren := {
 mixed := by kernel_rfl
 f129 := Tryz.func285.trans (congrArg some (by kernel_rfl))
 f284 := Tryz.func245.trans (congrArg some (by kernel_rfl))
 f317 := Tryz.func284.trans (congrArg some (by kernel_rfl))
 f318 := Tryz.func286.trans (congrArg some (by kernel_rfl))
 t0 := Tryz.underlying0
 a0 := Tryz.isAgg0
 z0 := Tryz.sizeOf0
 v0 := Tryz.zeroValue0
 t3 := Tryz.underlying3
 a3 := Tryz.isAgg3
 z3 := Tryz.sizeOf3
 v3 := Tryz.zeroValue3
 t4 := Tryz.underlying4
 a4 := Tryz.isAgg4
 z4 := Tryz.sizeOf4
 v4 := Tryz.zeroValue4
 t5 := Tryz.underlying5
 a5 := Tryz.isAgg5
 z5 := Tryz.sizeOf5
 v5 := Tryz.zeroValue5
 t9 := Tryz.underlying9
 a9 := Tryz.isAgg9
 z9 := Tryz.sizeOf9
 v9 := Tryz.zeroValue9
 t46 := Tryz.underlying157
 a46 := Tryz.isAgg157
 z46 := Tryz.sizeOf157
 v46 := Tryz.zeroValue157
 t53 := Tryz.underlying158
 a53 := Tryz.isAgg158
 z53 := Tryz.sizeOf158
 v53 := Tryz.zeroValue158
 t212 := Tryz.underlying323
 a212 := Tryz.isAgg323
 z212 := Tryz.sizeOf323
 v212 := Tryz.zeroValue323
 g17 := by kernel_rfl
 i0 := by kernel_rfl
 i3 := by kernel_rfl
 i4 := by kernel_rfl
 i5 := by kernel_rfl
 i9 := by kernel_rfl
 i46 := by kernel_rfl
 i53 := by kernel_rfl
 i212 := by kernel_rfl
 m17 := by kernel_rfl }
def Tryz.lays285_ren : Go.Shelf.Ren := ⟨fun | 285 => 246 | n => n, fun | 37 => 22 | 53 => 158 | 3 => 3 | 4 => 4 | 51 => 324 | 9 => 9 | 5 => 5 | 0 => 0 | n => n, fun | n => n⟩
theorem Tryz.lays285 : Go.Proofs.Lays.n285 Tryz.prog Tryz.lays285_ren := {
 mixed := by kernel_rfl
 f285 := Tryz.func246.trans (congrArg some (by kernel_rfl))
 t0 := Tryz.underlying0
 a0 := Tryz.isAgg0
 z0 := Tryz.sizeOf0
 v0 := Tryz.zeroValue0
 t3 := Tryz.underlying3
 a3 := Tryz.isAgg3
 z3 := Tryz.sizeOf3
 v3 := Tryz.zeroValue3
 t4 := Tryz.underlying4
 a4 := Tryz.isAgg4
 z4 := Tryz.sizeOf4
 v4 := Tryz.zeroValue4
 t5 := Tryz.underlying5
 a5 := Tryz.isAgg5
 z5 := Tryz.sizeOf5
 v5 := Tryz.zeroValue5
 t9 := Tryz.underlying9
 a9 := Tryz.isAgg9
 z9 := Tryz.sizeOf9
 v9 := Tryz.zeroValue9
 t37 := Tryz.underlying22
 a37 := Tryz.isAgg22
 z37 := Tryz.sizeOf22
 v37 := Tryz.zeroValue22
 t51 := Tryz.underlying324
 a51 := Tryz.isAgg324
 z51 := Tryz.sizeOf324
 v51 := Tryz.zeroValue324
 t53 := Tryz.underlying158
 a53 := Tryz.isAgg158
 z53 := Tryz.sizeOf158
 v53 := Tryz.zeroValue158 }
open Go.RowKit Go.Sort Go.Lib in
theorem Tryz.internal_strconv_formatBase10 (blk off cap : Nat) (u : Nat) (d : Array UInt8) (w : World) (hH : Holds (fun (b : UInt8) => Value.int .u8 (b.toNat : Int)) w blk off d) (hu : u < 10 ^ d.size) (hu64 : u < 18446744073709551616) (hsz : d.size < 4611686018427387904) :
 Calls Tryz.prog 246 #[.slice (some ⟨blk, off, none⟩) d.size cap, .int .u64 u] w fun e w' =>
  e = .returned (.tuple #[]) ∧ ∃ (n v' : Nat) (dk : Array UInt8), w' = (putRow (fun (b : UInt8) => Value.int .u8 (b.toNat : Int)) w blk off dk).drewN n ∧ FmtInv d.size u 0 v' dk := Any.internal_strconv_formatBase10 Tryz.lays285 blk off cap u d w hH hu hu64 hsz
def Tryz.laysM171_ren : Go.Shelf.Ren := ⟨fun | 171 => 108 | 243 => 151 | 246 => 200 | 283 => 244 | 284 => 245 | 285 => 246 | 286 => 247 | 129 => 285 | 317 => 284 | 318 => 286 | 319 => 287 | 320 => 288 | 337 => 329 | 338 => 330 | n => n, fun | 3 => 3 | 9 => 9 | 2 => 2 | 4 => 4 | 171 => 296 | 0 => 0 | 53 => 158 | 37 => 22 | 5 => 5 | 173 => 299 | 212 => 323 | 51 => 324 | 20 => 20 | 213 => 325 | 46 => 157 | 232 => 361 | 233 => 362 | n => n, fun | 17 => 5 | 18 => 9 | 19 => 10 | n => n⟩
theorem Tryz.laysM171 : Go.Proofs.LaysM.n171 Tryz.prog Tryz.laysM171_ren := {
 mixed := by kernel_rfl
 f129 := Tryz.func285.trans (congrArg some (by kernel_rfl))
 f171 := Tryz.func108.trans (congrArg some (by kernel_rfl))
 f243 := Tryz.func151.trans (congrArg some (by kernel_rfl))
 f246 := Tryz.func200.trans (congrArg some (by kernel_rfl))
 f283 := Tryz.func244.trans (congrArg some (by kernel_rfl))
 f284 := Tryz.func245.trans (congrArg some (by kernel_rfl))
 f285 := Tryz.func246.trans (congrArg some (by kernel_rfl))
 f286 := Tryz.func247.trans (congrArg some (by kernel_rfl))
 f317 := Tryz.func284.trans (congrArg some (by kernel_rfl))
 f318 := Tryz.func286.trans (congrArg some (by kernel_rfl))
 f319 := Tryz.func287.trans (congrArg some (by kernel_rfl))
 f320 := Tryz.func288.trans (congrArg some (by kernel_rfl))
 f337 := Tryz.func329.trans (congrArg some (by kernel_rfl))
 f338 := Tryz.func330.trans (congrArg some (by kernel_rfl))
 t0 := Tryz.underlying0
 a0 := Tryz.isAgg0
 z0 := Tryz.sizeOf0
 v0 := Tryz.zeroValue0
 t2 := Tryz.underlying2
 a2 := Tryz.isAgg2
 z2 := Tryz.sizeOf2
 v2 := Tryz.zeroValue2
 t3 := Tryz.underlying3
 a3 := Tryz.isAgg3
 z3 := Tryz.sizeOf3
 v3 := Tryz.zeroValue3
 t4 := Tryz.underlying4
 a4 := Tryz.isAgg4
 z4 := Tryz.sizeOf4
 v4 := Tryz.zeroValue4
 t5 := Tryz.underlying5
 a5 := Tryz.isAgg5
 z5 := Tryz.sizeOf5
 v5 := Tryz.zeroValue5
 t9 := Tryz.underlying9
 a9 := Tryz.isAgg9
 z9 := Tryz.sizeOf9
 v9 := Tryz.zeroValue9
 t20 := Tryz.underlying20
 a20 := Tryz.isAgg20
 z20 := Tryz.sizeOf20
 v20 := Tryz.zeroValue20
 t37 := Tryz.underlying22
 a37 := Tryz.isAgg22
 z37 := Tryz.sizeOf22
 v37 := Tryz.zeroValue22
 t46 := Tryz.underlying157
 a46 := Tryz.isAgg157
 z46 := Tryz.sizeOf157
 v46 := Tryz.zeroValue157
 t51 := Tryz.underlying324
 a51 := Tryz.isAgg324
 z51 := Tryz.sizeOf324
 v51 := Tryz.zeroValue324
 t53 := Tryz.underlying158
 a53 := Tryz.isAgg158
 z53 := Tryz.sizeOf158
 v53 := Tryz.zeroValue158
 t171 := Tryz.underlying296
 a171 := Tryz.isAgg296
 z171 := Tryz.sizeOf296
 v171 := Tryz.zeroValue296
 t173 := Tryz.underlying299
 a173 := Tryz.isAgg299
 z173 := Tryz.sizeOf299
 v173 := Tryz.zeroValue299
 t212 := Tryz.underlying323
 a212 := Tryz.isAgg323
 z212 := Tryz.sizeOf323
 v212 := Tryz.zeroValue323
 t213 := Tryz.underlying325
 a213 := Tryz.isAgg325
 z213 := Tryz.sizeOf325
 t232 := Tryz.underlying361
 a232 := Tryz.isAgg361
 z232 := Tryz.sizeOf361
 v232 := Tryz.zeroValue361
 t233 := Tryz.underlying362
 a233 := Tryz.isAgg362
 z233 := Tryz.sizeOf362
 v233 := Tryz.zeroValue362
 g17 := by kernel_rfl
 g18 := by kernel_rfl
 g19 := by kernel_rfl
 i0 := by kernel_rfl
 i2 := by kernel_rfl
 i3 := by kernel_rfl
 i4 := by kernel_rfl
 i5 := by kernel_rfl
 i9 := by kernel_rfl
 i20 := by kernel_rfl
 i37 := by kernel_rfl
 i46 := by kernel_rfl
 i51 := by kernel_rfl
 i53 := by kernel_rfl
 i171 := by kernel_rfl
 i173 := by kernel_rfl
 i212 := by kernel_rfl
 i232 := by kernel_rfl
 i233 := by kernel_rfl
 m17 := by kernel_rfl
 m18 := by kernel_rfl
 m19 := by kernel_rfl }
def Tryz.laysC245_ren : Go.Shelf.Ren := ⟨fun | 245 => 197 | 279 => 240 | 280 => 241 | 281 => 242 | 282 => 243 | 316 => 282 | 171 => 108 | 205 => 283 | 243 => 151 | 246 => 200 | 283 => 244 | 284 => 245 | 285 => 246 | 286 => 247 | 129 => 285 | 317 => 284 | 318 => 286 | 319 => 287 | 320 => 288 | 337 => 329 | 338 => 330 | n => n, fun | 9 => 9 | 3 => 3 | 75 => 198 | 167 => 291 | 4 => 4 | 168 => 293 | 210 => 320 | 37 => 22 | 0 => 0 | 127 => 246 | 145 => 353 | 143 => 351 | 2 => 2 | 171 => 296 | 53 => 158 | 5 => 5 | 173 => 299 | 212 => 323 | 51 => 324 | 20 => 20 | 213 => 325 | 46 => 157 | 232 => 361 | 233 => 362 | 80 => 200 | n => n, fun | 15 => 3 | 16 => 4 | 17 => 5 | 18 => 9 | 19 => 10 | n => n⟩
theorem Tryz.laysC245 : Go.Proofs.LaysC.n245 Tryz.prog Tryz.laysC245_ren := {
 mixed := by kernel_rfl
 f129 := Tryz.func285.trans (congrArg some (by kernel_rfl))
 f171 := Tryz.func108.trans (congrArg some (by kernel_rfl))
 f205 := Tryz.func283.trans (congrArg some (by kernel_rfl))
 f243 := Tryz.func151.trans (congrArg some (by kernel_rfl))
 f245 := Tryz.func197.trans (congrArg some (by kernel_rfl))
 f246 := Tryz.func200.trans (congrArg some (by kernel_rfl))
 f279 := Tryz.func240.trans (congrArg some (by kernel_rfl))
 f280 := Tryz.func241.trans (congrArg some (by kernel_rfl))
 f281 := Tryz.func242.trans (congrArg some (by kernel_rfl))
 f282 := Tryz.func243.trans (congrArg some (by kernel_rfl))
 f283 := Tryz.func244.trans (congrArg some (by kernel_rfl))
 f284 := Tryz.func245.trans (congrArg some (by kernel_rfl))
 f285 := Tryz.func246.trans (congrArg some (by kernel_rfl))
 f286 := Tryz.func247.trans (congrArg some (by kernel_rfl))
 f316 := Tryz.func282.trans (congrArg some (by kernel_rfl))
 f317 := Tryz.func284.trans (congrArg some (by kernel_rfl))
 f318 := Tryz.func286.trans (congrArg some (by kernel_rfl))
 f319 := Tryz.func287.trans (congrArg some (by kernel_rfl))
 f320 := Tryz.func288.trans (congrArg some (by kernel_rfl))
 f337 := Tryz.func329.trans (congrArg some (by kernel_rfl))
 f338 := Tryz.func330.trans (congrArg some (by kernel_rfl))
 t0 := Tryz.underlying0
 a0 := Tryz.isAgg0
 z0 := Tryz.sizeOf0
 v0 := Tryz.zeroValue0
 t2 := Tryz.underlying2
 a2 := Tryz.isAgg2
 z2 := Tryz.sizeOf2
 v2 := Tryz.zeroValue2
 t3 := Tryz.underlying3
 a3 := Tryz.isAgg3
 z3 := Tryz.sizeOf3
 v3 := Tryz.zeroValue3
 t4 := Tryz.underlying4
 a4 := Tryz.isAgg4
 z4 := Tryz.sizeOf4
 v4 := Tryz.zeroValue4
 t5 := Tryz.underlying5
 a5 := Tryz.isAgg5
 z5 := Tryz.sizeOf5
 v5 := Tryz.zeroValue5
 t9 := Tryz.underlying9
 a9 := Tryz.isAgg9
 z9 := Tryz.sizeOf9
 v9 := Tryz.zeroValue9
 t20 := Tryz.underlying20
 a20 := Tryz.isAgg20
 z20 := Tryz.sizeOf20
 v20 := Tryz.zeroValue20
 t37 := Tryz.underlying22
 a37 := Tryz.isAgg22
 z37 := Tryz.sizeOf22
 v37 := Tryz.zeroValue22
 t46 := Tryz.underlying157
 a46 := Tryz.isAgg157
 z46 := Tryz.sizeOf157
 v46 := Tryz.zeroValue157
 t51 := Tryz.underlying324
 a51 := Tryz.isAgg324
 z51 := Tryz.sizeOf324
 v51 := Tryz.zeroValue324
 t53 := Tryz.underlying158
 a53 := Tryz.isAgg158
 z53 := Tryz.sizeOf158
 v53 := Tryz.zeroValue158
 t75 := Tryz.underlying198
 a75 := Tryz.isAgg198
 z75 := Tryz.sizeOf198
 v75 := Tryz.zeroValue198
 t127 := Tryz.underlying246
 a127 := Tryz.isAgg246
 z127 := Tryz.sizeOf246
 v127 := Tryz.zeroValue246
 t143 := Tryz.underlying351
 a143 := Tryz.isAgg351
 z143 := Tryz.sizeOf351
 v143 := Tryz.zeroValue351
 t145 := Tryz.underlying353
 a145 := Tryz.isAgg353
 z145 := Tryz.sizeOf353
 v145 := Tryz.zeroValue353
 t167 := Tryz.underlying291
 a167 := Tryz.isAgg291
 z167 := Tryz.sizeOf291
 v167 := Tryz.zeroValue291
 t168 := Tryz.underlying293
 a168 := Tryz.isAgg293
 z168 := Tryz.sizeOf293
 v168 := Tryz.zeroValue293
 t171 := Tryz.underlying296
 a171 := Tryz.isAgg296
 z171 := Tryz.sizeOf296
 v171 := Tryz.zeroValue296
 t173 := Tryz.underlying299
 a173 := Tryz.isAgg299
 z173 := Tryz.sizeOf299
 v173 := Tryz.zeroValue299
 t210 := Tryz.underlying320
 a210 := Tryz.isAgg320
 z210 := Tryz.sizeOf320
 v210 := Tryz.zeroValue320
 t212 := Tryz.underlying323
 a212 := Tryz.isAgg323
 z212 := Tryz.sizeOf323
 v212 := Tryz.zeroValue323
 t213 := Tryz.underlying325
 a213 := Tryz.isAgg325
 z213 := Tryz.sizeOf325
 t232 := Tryz.underlying361
 a232 := Tryz.isAgg361
 z232 := Tryz.sizeOf361
 v232 := Tryz.zeroValue361
 t233 := Tryz.underlying362
 a233 := Tryz.isAgg362
 z233 := Tryz.sizeOf362
 v233 := Tryz.zeroValue362
 g15 := by kernel_rfl
 g16 := by kernel_rfl
 g17 := by kernel_rfl
 g18 := by kernel_rfl
 g19 := by kernel_rfl
 t80 := Tryz.underlying200
 a80 := Tryz.isAgg200
 z80 := Tryz.sizeOf200
 v80 := Tryz.zeroValue200
 i0 := by kernel_rfl
 i2 := by kernel_rfl
 i3 := by kernel_rfl
 i4 := by kernel_rfl
 i5 := by kernel_rfl
 i9 := by kernel_rfl
 i20 := by kernel_rfl
 i37 := by kernel_rfl
 i46 := by kernel_rfl
 i51 := by kernel_rfl
 i53 := by kernel_rfl
 i75 := by kernel_rfl
 i80 := by kernel_rfl
 i127 := by kernel_rfl
 i143 := by kernel_rfl
 i145 := by kernel_rfl
 i167 := by kernel_rfl
 i168 := by kernel_rfl
 i171 := by kernel_rfl
 i173 := by kernel_rfl
 i210 := by kernel_rfl
 i212 := by kernel_rfl
 i232 := by kernel_rfl
 i233 := by kernel_rfl
 m15 := by kernel_rfl
 m16 := by kernel_rfl
 m17 := by kernel_rfl
 m18 := by kernel_rfl
 m19 := by kernel_rfl
 c0 := by kernel_rfl
 c2 := by kernel_rfl
 c3 := by kernel_rfl
 c4 := by kernel_rfl
 c5 := by kernel_rfl
 c9 := by kernel_rfl
 c20 := by kernel_rfl
 c37 := by kernel_rfl
 c46 := by kernel_rfl
 c51 := by kernel_rfl
 c53 := by kernel_rfl
 c75 := by kernel_rfl
 c80 := by kernel_rfl
 c127 := by kernel_rfl
 c143 := by kernel_rfl
 c145 := by kernel_rfl
 c167 := by kernel_rfl
 c168 := by kernel_rfl
 c171 := by kernel_rfl
 c173 := by kernel_rfl
 c210 := by kernel_rfl
 c212 := by kernel_rfl
 c213 := by kernel_rfl
 c232 := by kernel_rfl
 c233 := by kernel_rfl }
open Go.RowKit in
theorem Tryz.strconv_toError_syntax (fn s : ByteArray) (base bits : Int) (ev : Value) (w : World) (hlim : s.size ≤ 281474976710656) (hv : w.cell? ⟨3, 0, none⟩ = some ev) (hev : ev = .nilIface ∨ ∃ te pe, ev = .iface te pe) :
 Calls Tryz.prog 197 #[.string fn, .string s, .int .i64 base, .int .i64 bits, .iface 291 (.int .i64 2)] w fun e w' => ∃ N, e = .returned (.iface 293 (.pointer (some ⟨N, 0, none⟩))) ∧ w.heap.size ≤ N ∧ w'.heap[N]? = some (.cells #[.string fn, .string s, ev] 320 (0, 0)) ∧ Below w.heap.size w w' := Any.strconv_toError_syntax Tryz.laysC245 fn s base bits ev w hlim hv hev
def Tryz.lays287_ren : Go.Shelf.Ren := ⟨fun | 287 => 196 | 321 => 238 | 322 => 239 | n => n, fun | 9 => 9 | 3 => 3 | 53 => 158 | 75 => 198 | 4 => 4 | 167 => 291 | 5 => 5 | 46 => 157 | 37 => 22 | 0 => 0 | 21 => 21 | 80 => 200 | n => n, fun | n => n⟩
theorem Tryz.lays287 : Go.Proofs.Lays.n287 Tryz.prog Tryz.lays287_ren := {
 mixed := by kernel_rfl
 f287 := Tryz.func196.trans (congrArg some (by kernel_rfl))
 f321 := Tryz.func238.trans (congrArg some (by kernel_rfl))
 f322 := Tryz.func239.trans (congrArg some (by kernel_rfl))
 t0 := Tryz.underlying0
 a0 := Tryz.isAgg0
 z0 := Tryz.sizeOf0
 v0 := Tryz.zeroValue0
 t3 := Tryz.underlying3
 a3 := Tryz.isAgg3
 z3 := Tryz.sizeOf3
 v3 := Tryz.zeroValue3
 t4 := Tryz.underlying4
 a4 := Tryz.isAgg4
 z4 := Tryz.sizeOf4
 v4 := Tryz.zeroValue4
 t5 := Tryz.underlying5
 a5 := Tryz.isAgg5
 z5 := Tryz.sizeOf5
 v5 := Tryz.zeroValue5
 t9 := Tryz.underlying9
 a9 := Tryz.isAgg9
 z9 := Tryz.sizeOf9
 v9 := Tryz.zeroValue9
 t21 := Tryz.underlying21
 a21 := Tryz.isAgg21
 z21 := Tryz.sizeOf21
 v21 := Tryz.zeroValue21
 t37 := Tryz.underlying22
 a37 := Tryz.isAgg22
 z37 := Tryz.sizeOf22
 v37 := Tryz.zeroValue22
 t46 := Tryz.underlying157
 a46 := Tryz.isAgg157
 z46 := Tryz.sizeOf157
 v46 := Tryz.zeroValue157
 t53 := Tryz.underlying158
 a53 := Tryz.isAgg158
 z53 := Tryz.sizeOf158
 v53 := Tryz.zeroValue158
 t75 := Tryz.underlying198
 a75 := Tryz.isAgg198
 z75 := Tryz.sizeOf198
 v75 := Tryz.zeroValue198
 t167 := Tryz.underlying291
 a167 := Tryz.isAgg291
 z167 := Tryz.sizeOf291
 v167 := Tryz.zeroValue291 }
open Go.RowKit in
theorem Tryz.strconv_toError_range (fn s : ByteArray) (base bits : Int) (ev : Value) (w : World) (hlim : s.size ≤ 281474976710656) (hv : w.cell? ⟨4, 0, none⟩ = some ev) (hev : ev = .nilIface ∨ ∃ te pe, ev = .iface te pe) :
 Calls Tryz.prog 197 #[.string fn, .string s, .int .i64 base, .int .i64 bits, .iface 291 (.int .i64 1)] w fun e w' => ∃ N, e = .returned (.iface 293 (.pointer (some ⟨N, 0, none⟩))) ∧ w.heap.size ≤ N ∧ w'.heap[N]? = some (.cells #[.string fn, .string s, ev] 320 (0, 0)) ∧ Below w.heap.size w w' := Any.strconv_toError_range Tryz.laysC245 fn s base bits ev w hlim hv hev
def Tryz.lays143_ren : Go.Shelf.Ren := ⟨fun | 143 => 237 | 219 => 281 | 217 => 325 | 225 => 326 | 224 => 327 | 267 => 328 | 266 => 345 | 314 => 346 | n => n, fun | 9 => 9 | 3 => 3 | 4 => 4 | 5 => 5 | 46 => 157 | 146 => 335 | 51 => 324 | n => n, fun | 1 => 8 | n => n⟩
theorem Tryz.lays143 : Go.Proofs.Lays.n143 Tryz.prog Tryz.lays143_ren := {
 mixed := by kernel_rfl
 f143 := Tryz.func237.trans (congrArg some (by kernel_rfl))
 f217 := Tryz.func325.trans (congrArg some (by kernel_rfl))
 f219 := Tryz.func281.trans (congrArg some (by kernel_rfl))
 f224 := Tryz.func327.trans (congrArg some (by kernel_rfl))
 f225 := Tryz.func326.trans (congrArg some (by kernel_rfl))
 f266 := Tryz.func345.trans (congrArg some (by kernel_rfl))
 f267 := Tryz.func328.trans (congrArg some (by kernel_rfl))
 f314 := Tryz.func346.trans (congrArg some (by kernel_rfl))
 t3 := Tryz.underlying3
 a3 := Tryz.isAgg3
 z3 := Tryz.sizeOf3
 v3 := Tryz.zeroValue3
 t4 := Tryz.underlying4
 a4 := Tryz.isAgg4
 z4 := Tryz.sizeOf4
 v4 := Tryz.zeroValue4
 t5 := Tryz.underlying5
 a5 := Tryz.isAgg5
 z5 := Tryz.sizeOf5
 v5 := Tryz.zeroValue5
 t9 := Tryz.underlying9
 a9 := Tryz.isAgg9
 z9 := Tryz.sizeOf9
 v9 := Tryz.zeroValue9
 t46 := Tryz.underlying157
 a46 := Tryz.isAgg157
 z46 := Tryz.sizeOf157
 v46 := Tryz.zeroValue157
 t51 := Tryz.underlying324
 a51 := Tryz.isAgg324
 z51 := Tryz.sizeOf324
 v51 := Tryz.zeroValue324
 t146 := Tryz.underlying335
 a146 := Tryz.isAgg335
 z146 := Tryz.sizeOf335
 v146 := Tryz.zeroValue335
 g1 := by kernel_rfl }
open Go.RowKit Go.Lib in
theorem Tryz.strings_Index_one (s : ByteArray) (c : UInt8) (w : World) :
 Calls Tryz.prog 237 #[.string s, .string ⟨#[c]⟩] w fun e w' => e = .returned (.int .i64 (Lib.indexByte s.data.toList c)) ∧ w' = w := Any.strings_Index_one Tryz.lays143 s c w
end Go.Proofs
namespace Go.Proofs
open Go.Shelf Go.RowKit
variable {P : Program} {ρ : Ren}
set_option maxHeartbeats 2000000 in
set_option maxRecDepth 100000 in
theorem Any.internal_strconv_numDigits_cells (L : LaysM.n284 P ρ) (u : Nat) (h1 : 1 ≤ u) (h2 : u < 18446744073709551616) (w : World)
 (htab : ∀ j, j < 20 → w.cell? ⟨(ρ.g 17), j, none⟩ = some (.int .u64 ((10 ^ j : Nat) : Int))) :
 Calls P (ρ.f 284) #[.int .u64 u] w fun e w' => e = .returned (.int .i64 (Lib.nDigits u)) ∧ w' = w := by
 have mixed := L.mixed
 have t53 := L.t53; have a53 := L.a53; have z53 := L.z53; have v53 := L.v53
 have t3 := L.t3; have a3 := L.a3; have z3 := L.z3; have v3 := L.v3
 have t212 := L.t212; have a212 := L.a212; have z212 := L.z212; have v212 := L.v212
 have t0 := L.t0; have a0 := L.a0; have z0 := L.z0; have v0 := L.v0
 have t4 := L.t4; have a4 := L.a4; have z4 := L.z4; have v4 := L.v4
 have e129 : ∀ args w, (callFunc (ρ.f 129) args).run P w = .ok (.enter (ρ.f 129) args) w := enters_of L.f129 (by kernel_rfl) rfl
 have e317 : ∀ args w, (callFunc (ρ.f 317) args).run P w = .ok (.enter (ρ.f 317) args) w := enters_of L.f317 (by kernel_rfl) rfl
 have e318 : ∀ args w, (callFunc (ρ.f 318) args).run P w = .ok (.enter (ρ.f 318) args) w := enters_of L.f318 (by kernel_rfl) rfl
 obtain ⟨hnd, h19⟩ := Lib.numDigits_eq u h1 h2
 have hL : Lib.bitLen u ≤ 64 := Lib.bitLen_le u 64 (Nat.le_refl _) h2
 have hcell : w.cell? ⟨(ρ.g 17), Lib.l10 (Lib.bitLen u), none⟩ = some (.int .u64 ((10 ^ Lib.l10 (Lib.bitLen u) : Nat) : Int)) := by
  rw [htab _ (by omega)]
 have hto : ((u : Int)).toNat = u := by omega
 generalize hq : Lib.l10 (Lib.bitLen u) = q at hnd h19 hcell
 generalize hT : 10 ^ q = T at hnd hcell
 have h20 : q < 20 := by omega
 have Hnd := Lib.hid hnd
 clear hnd htab
 go_enter L.f284, Body.n284_ntmps ρ
 go_wp2_with (first
  | (go_at_fn (ρ.f 129); refine (Any.bits_Len64 { L with } _ _ (by omega) (by omega)).mono ?_; rintro e w' ⟨rfl, rfl⟩)
  | (go_at_fn (ρ.f 317); refine (Any.internal_strconv_log10Pow2 { L with } _ (by first | exact hL | (rw [hto]; exact hL)) _).mono ?_; rintro e w' ⟨rfl, rfl⟩)
  | (go_at_fn (ρ.f 318); refine (Any.internal_strconv_bool2_int { L with } _ _).mono ?_; rintro e w' ⟨rfl, rfl⟩))
 all_goals go_ret
 all_goals (
  refine ⟨?_, rfl⟩
  have hnd := Hnd.out
  congr 2
  split at hnd <;> simp_all <;> omega)
end Go.Proofs
namespace Go.Proofs.YtpajpkbipagjpaaGreatDoor.Oc
open Go Go.Shelf Go.RowKit Go.Sort Go.Lib Go.Proofs
theorem LL.t0 : Tryz.prog.underlying 0 = some (TypeDesc.tuple #[]) := by kernel_rfl
theorem LL.a0 : ∀ w, (isAgg 0).run Tryz.prog w = .ok false w := fun w => by kernel_rfl
theorem LL.z0 : ∀ w, (Go.sizeOf 0).run Tryz.prog w = .ok 1 w := fun w => by kernel_rfl
theorem LL.v0 : ∀ w, (zeroValue 0).run Tryz.prog w = .ok (Value.tuple #[]) w := fun w => by kernel_rfl
theorem LL.t3 : Tryz.prog.underlying 3 = some (TypeDesc.int IntKind.i64) := by kernel_rfl
theorem LL.a3 : ∀ w, (isAgg 3).run Tryz.prog w = .ok false w := fun w => by kernel_rfl
theorem LL.z3 : ∀ w, (Go.sizeOf 3).run Tryz.prog w = .ok 1 w := fun w => by kernel_rfl
theorem LL.v3 : ∀ w, (zeroValue 3).run Tryz.prog w = .ok (Value.int IntKind.i64 0) w := fun w => by kernel_rfl
theorem LL.t4 : Tryz.prog.underlying 4 = some (TypeDesc.bool) := by kernel_rfl
theorem LL.a4 : ∀ w, (isAgg 4).run Tryz.prog w = .ok false w := fun w => by kernel_rfl
theorem LL.z4 : ∀ w, (Go.sizeOf 4).run Tryz.prog w = .ok 1 w := fun w => by kernel_rfl
theorem LL.v4 : ∀ w, (zeroValue 4).run Tryz.prog w = .ok (Value.bool false) w := fun w => by kernel_rfl
theorem LL.t9 : Tryz.prog.underlying 9 = some (TypeDesc.string) := by kernel_rfl
theorem LL.a9 : ∀ w, (isAgg 9).run Tryz.prog w = .ok false w := fun w => by kernel_rfl
theorem LL.z9 : ∀ w, (Go.sizeOf 9).run Tryz.prog w = .ok 1 w := fun w => by kernel_rfl
theorem LL.v9 : ∀ w, (zeroValue 9).run Tryz.prog w = .ok (Value.string ⟨#[]⟩) w := fun w => by kernel_rfl
theorem LL.t158 : Tryz.prog.underlying 158 = some (TypeDesc.int IntKind.u64) := by kernel_rfl
theorem LL.a158 : ∀ w, (isAgg 158).run Tryz.prog w = .ok false w := fun w => by kernel_rfl
theorem LL.z158 : ∀ w, (Go.sizeOf 158).run Tryz.prog w = .ok 1 w := fun w => by kernel_rfl
theorem LL.v158 : ∀ w, (zeroValue 158).run Tryz.prog w = .ok (Value.int IntKind.u64 0) w := fun w => by kernel_rfl
theorem LL.t22 : Tryz.prog.underlying 22 = some (TypeDesc.slice 5) := by kernel_rfl
theorem LL.a22 : ∀ w, (isAgg 22).run Tryz.prog w = .ok false w := fun w => by kernel_rfl
theorem LL.z22 : ∀ w, (Go.sizeOf 22).run Tryz.prog w = .ok 1 w := fun w => by kernel_rfl
theorem LL.v22 : ∀ w, (zeroValue 22).run Tryz.prog w = .ok (Value.slice none 0 0) w := fun w => by kernel_rfl
theorem LL.t5 : Tryz.prog.underlying 5 = some (TypeDesc.int IntKind.u8) := by kernel_rfl
theorem LL.a5 : ∀ w, (isAgg 5).run Tryz.prog w = .ok false w := fun w => by kernel_rfl
theorem LL.z5 : ∀ w, (Go.sizeOf 5).run Tryz.prog w = .ok 1 w := fun w => by kernel_rfl
theorem LL.v5 : ∀ w, (zeroValue 5).run Tryz.prog w = .ok (Value.int IntKind.u8 0) w := fun w => by kernel_rfl
theorem LL.t296 : Tryz.prog.underlying 296 = some (TypeDesc.array 24 5) := by kernel_rfl
theorem LL.a296 : ∀ w, (isAgg 296).run Tryz.prog w = .ok true w := fun w => by kernel_rfl
theorem LL.z296 : ∀ w, (Go.sizeOf 296).run Tryz.prog w = .ok 24 w := fun w => by kernel_rfl
theorem LL.v296 : ∀ w, (zeroValue 296).run Tryz.prog w = .ok (Value.agg Lib.zeros24) w := fun w => by kernel_rfl
theorem LL.mixed : Tryz.prog.follows .mixedOrders = true := by kernel_rfl
theorem numDigits_here (u : Nat) (h1 : 1 ≤ u) (h2 : u < 18446744073709551616) (w : World) (htab : ∀ j, j < 20 → w.cell? ⟨5, j, none⟩ = some (.int .u64 ((10 ^ j : Nat) : Int))) :
 Calls Tryz.prog 245 #[.int .u64 u] w fun e w' => e = .returned (.int .i64 (Lib.nDigits u)) ∧ w' = w := Any.internal_strconv_numDigits_cells Tryz.laysM284 u h1 h2 w htab
theorem holds_zero0 (w : World) (T : TypeId) (nd : Nat) (hs : nd ≤ 24) : Holds (fun (b : UInt8) => Value.int .u8 (b.toNat : Int)) (w.alloc (.cells Lib.zeros24 T)) w.heap.size 0 (Array.replicate nd (0 : UInt8)) := fun j hj => by
 have hj' : j < nd := by simpa using hj
 refine ⟨?_, World.frozen?_alloc_new _ _ _ _⟩
 rw [World.cell?_alloc_new, Lib.zeros24_at _ (by omega), getElem!_pos _ j hj]
 simp
theorem fin_pos0 (w : World) (o : Obj) (dk : Array UInt8) (k : Nat) : ∃ os, (putRow (fun (b : UInt8) => Value.int .u8 (b.toNat : Int)) (w.alloc o) w.heap.size 0 dk).drewN k = grow (w.drewN k) os := by
 rw [alloc_eq_grow]
 obtain ⟨os', _, e⟩ := putRow_grow_new (fun (b : UInt8) => Value.int .u8 (b.toNat : Int)) w #[o] w.heap.size 0 dk (Nat.le_refl _)
 exact ⟨os', by rw [e]; rfl⟩
set_option maxHeartbeats 6400000 in
set_option maxRecDepth 100000 in
theorem fmtUint (u : Nat) (hu64 : u < 18446744073709551616) (w : World) (htab : ∀ j, j < 20 → w.cell? ⟨5, j, none⟩ = some (.int .u64 ((10 ^ j : Nat) : Int))) (hg : 5 < w.heap.size) :
 Calls Tryz.prog 206 #[.int .u64 u, .int .i64 10] w fun e w' => e = .returned (.string ⟨(Lib.decDigits u).toArray⟩) ∧ ∃ k os, w' = grow (w.drewN k) os := by
 have mixed := LL.mixed
 have t0 := LL.t0; have a0 := LL.a0; have z0 := LL.z0; have v0 := LL.v0
 have t3 := LL.t3; have a3 := LL.a3; have z3 := LL.z3; have v3 := LL.v3
 have t4 := LL.t4; have a4 := LL.a4; have z4 := LL.z4; have v4 := LL.v4
 have t9 := LL.t9; have a9 := LL.a9; have z9 := LL.z9; have v9 := LL.v9
 have t158 := LL.t158; have a158 := LL.a158; have z158 := LL.z158; have v158 := LL.v158
 have t22 := LL.t22; have a22 := LL.a22; have z22 := LL.z22; have v22 := LL.v22
 have t5 := LL.t5; have a5 := LL.a5; have z5 := LL.z5; have v5 := LL.v5
 have t296 := LL.t296; have a296 := LL.a296; have z296 := LL.z296; have v296 := LL.v296
 have e244 : ∀ args w, (callFunc 244 args).run Tryz.prog w = .ok (.enter 244 args) w := enters_of Tryz.func244 (by kernel_rfl) rfl
 have e245 : ∀ args w, (callFunc 245 args).run Tryz.prog w = .ok (.enter 245 args) w := enters_of Tryz.func245 (by kernel_rfl) rfl
 have e246 : ∀ args w, (callFunc 246 args).run Tryz.prog w = .ok (.enter 246 args) w := enters_of Tryz.func246 (by kernel_rfl) rfl
 by_cases hs : u < 100
 ·go_enter Tryz.func206, Tryz.ntmps206
  go_wp2_with (go_at_fn 244; refine (Tryz.internal_strconv_small u hs _).mono ?_; rintro e w' ⟨rfl, rfl⟩)
  go_ret
  exact ⟨rfl, 0, #[], by simp [World.drewN_zero]⟩
 ·have hu1 : 1 ≤ u := by omega
  have hnd20 : Lib.nDigits u ≤ 20 := by have := Lib.numDigits_eq u hu1 hu64; split at this <;> omega
  have hb3 : Lib.nDigits u ≤ 24 := by omega
  have hal : Tryz.prog.arrayLen 296 = 24 := by simp [Program.arrayLen, LL.t296]
  have hsl1 : ∀ W, (Instr.sliceAt 296 (.pointer (some ⟨w.heap.size, 0, none⟩)) none (some (.int .i64 (Lib.nDigits u : Int))) none).run Tryz.prog W = .ok (.slice (some ⟨w.heap.size, 0, none⟩) (Lib.nDigits u) 24) W := fun W => by
   rw [run_sliceAt_array_h W 296 ⟨w.heap.size, 0, none⟩ (by simp [Program.arrayLen, Program.elem, LL.t296]) .i64 (Lib.nDigits u : Int) (by omega) (by rw [hal]; omega)]
   go_simp
  have hH0 := holds_zero0 w 296 (Lib.nDigits u) hb3
  have hfmt := Tryz.internal_strconv_formatBase10 w.heap.size 0 24 u (Array.replicate (Lib.nDigits u) 0) (w.alloc (.cells Lib.zeros24 296)) hH0 (by rw [Array.size_replicate]; exact Lib.lt_pow_nDigits u) hu64 (by rw [Array.size_replicate]; omega)
  rw [Array.size_replicate] at hfmt
  have HH0 := Lib.hid hH0
  clear hH0 hal
  have hnd := numDigits_here u hu1 hu64 (w.alloc (.cells Lib.zeros24 296)) (fun j hj => by rw [World.cell?_alloc_old _ _ _ (Nat.ne_of_lt hg)]; exact htab j hj)
  go_enter Tryz.func206, Tryz.ntmps206
  go_wp2_with (first
   | (go_at_fn 245; refine hnd.mono ?_; rintro e w' ⟨rfl, rfl⟩))
  go_at_fn 246
  refine hfmt.mono ?_
  rintro e w' ⟨rfl, k, v', dk, rfl, hF⟩
  have hcv : (convert 22 9 (.slice (some ⟨w.heap.size, 0, none⟩) (Lib.nDigits u) 24)).run Tryz.prog ((putRow (fun (b : UInt8) => Value.int .u8 (b.toNat : Int)) (w.alloc (.cells Lib.zeros24 296)) w.heap.size 0 dk).drewN k) = .ok (.string ⟨(Lib.decDigits u).toArray⟩) ((putRow (fun (b : UInt8) => Value.int .u8 (b.toNat : Int)) (w.alloc (.cells Lib.zeros24 296)) w.heap.size 0 dk).drewN k) := by
   have h := run_convert_bytes_back (P := Tryz.prog) ((putRow (fun (b : UInt8) => Value.int .u8 (b.toNat : Int)) (w.alloc (.cells Lib.zeros24 296)) w.heap.size 0 dk).drewN k) 22 9 5 ⟨w.heap.size, 0, none⟩ 24 (Lib.decDigits u) LL.t22 LL.t5 LL.t9 (fun j hj => by
    rw [Lib.row_is_numeral hF j hj, Lib.add_plain, World.cell?_drewN]
    exact cell?_putRow (fun (b : UInt8) => Value.int .u8 (b.toNat : Int)) _ w.heap.size 0 _ dk HH0.out (by rw [hF.size, Array.size_replicate]) j (by rw [hF.size]; rw [Lib.decDigits_length] at hj; exact hj))
   rw [Lib.decDigits_length] at h
   exact h
  go_wp2
  go_ret
  obtain ⟨os, eo⟩ := fin_pos0 w (.cells Lib.zeros24 296) dk k
  exact ⟨rfl, k, os, eo⟩
end Go.Proofs.YtpajpkbipagjpaaGreatDoor.Oc
namespace Go.Proofs
open Go.Shelf Go.RowKit
variable {P : Program} {ρ : Ren}
set_option maxHeartbeats 32000000 in
set_option maxRecDepth 100000 in
theorem Any.internal_strconv_ParseUint_10_b63 (L : Lays.n287 P ρ) (t : ByteArray) (hne : t.size ≠ 0) (hmax : t.size ≤ 9223372036854775806) (w : World) :
 Calls P (ρ.f 287) #[.string t, .int .i64 10, .int .i64 63] w fun e w' => e = .returned (Lib.uintTupleM (ρ.t 167) 9223372036854775807 (Lib.parseUintM 9223372036854775807 0 t.data.toList)) ∧ w' = Lib.bytesWorld w (ρ.t 5) t := by
 have mixed := L.mixed
 have t9 := L.t9; have a9 := L.a9; have z9 := L.z9; have v9 := L.v9
 have t3 := L.t3; have a3 := L.a3; have z3 := L.z3; have v3 := L.v3
 have t53 := L.t53; have a53 := L.a53; have z53 := L.z53; have v53 := L.v53
 have t75 := L.t75; have a75 := L.a75; have z75 := L.z75; have v75 := L.v75
 have t4 := L.t4; have a4 := L.a4; have z4 := L.z4; have v4 := L.v4
 have t167 := L.t167; have a167 := L.a167; have z167 := L.z167; have v167 := L.v167
 have t5 := L.t5; have a5 := L.a5; have z5 := L.z5; have v5 := L.v5
 have t46 := L.t46; have a46 := L.a46; have z46 := L.z46; have v46 := L.v46
 have t37 := L.t37; have a37 := L.a37; have z37 := L.z37; have v37 := L.v37
 have t0 := L.t0; have a0 := L.a0; have z0 := L.z0; have v0 := L.v0
 have e321 : ∀ args w, (callFunc (ρ.f 321) args).run P w = .ok (.enter (ρ.f 321) args) w := enters_of L.f321 (by kernel_rfl) rfl
 have hemp : t.toList.isEmpty = false := by
  rw [← decide_eq_emptyBytes]
  exact decide_eq_false (fun h => hne (by rw [h]; rfl))
 have hcv := Lib.run_convert_string_bytes (P := P) w (ρ.t 9) (ρ.t 37) (ρ.t 5) t (u := .string) L.t9 L.t37 L.t5
 have hB : ∀ j, j < t.size → (Lib.bytesWorld w (ρ.t 5) t).cell? ⟨w.heap.size, j, none⟩ = some (.int .u8 (t.data.toList.getD j 0).toNat) := fun j hj => Lib.bytesWorld_cell w (ρ.t 5) t j hj
 obtain ⟨W1, hW1⟩ : ∃ W1, W1 = Lib.bytesWorld w (ρ.t 5) t := ⟨_, rfl⟩
 rw [← hW1] at hcv hB ⊢
 clear hW1
 obtain ⟨bs, hL⟩ : ∃ bs, bs = t.data.toList := ⟨_, rfl⟩
 have hLn : bs.length = t.size := by rw [hL, Lib.size_eq]
 rw [← hL] at hB ⊢
 clear hL
 have hmv : IntKind.u64.wrap (IntKind.u64.wrap 9223372036854775808 - 1) = 9223372036854775807 := by
  rw [IntKind.wrap_u64, IntKind.wrap_u64]
  decide
 go_enter L.f287, Body.n287_ntmps ρ
 go_wp2
 go_loop [12, 13, 101] (fun vu vn vi => ∃ (k acc : Nat) (a : Int), vu = .bool false ∧ vn = .int .u64 a ∧ vi = .int .i64 k ∧ k ≤ t.size ∧ Hid (a = (acc : Int) ∧ acc ≤ 9223372036854775807 ∧ Lib.parseUintM 9223372036854775807 0 bs = Lib.parseUintM 9223372036854775807 acc (bs.drop k)))
  (fun _ _ vi => t.size - (intOf vi).toNat)
 case atStart => exact ⟨0, 0, 0, rfl, rfl, rfl, by omega, rfl, by omega, rfl⟩
 case round =>
  obtain ⟨k, acc, a, rfl, rfl, rfl, hk, hh⟩ := hrel
  obtain ⟨ha, hacc, hdec⟩ := hh.out
  clear hh
  have a0 : 0 ≤ a := by omega
  have a1 : a ≤ 9223372036854775807 := by omega
  by_cases hkn : k < t.size
  ·have hc := hB k hkn
   have hdrop : bs.drop k = bs[k]'(by omega) :: bs.drop (k + 1) := List.drop_eq_getElem_cons (by omega)
   have hget : bs.getD k 0 = bs[k]'(by omega) := by simp [List.getD, List.getElem?_eq_getElem (show k < bs.length by omega)]
   rw [hdrop] at hdec
   rw [hget] at hc
   generalize bs[k]'(by omega) = c at hc hdec
   have hc256 : c.toNat < 256 := c.toNat_lt
   clear hB hdrop hget
   by_cases hdig : 48 ≤ c.toNat ∧ c.toNat ≤ 57
   ·obtain ⟨hd0, hd1⟩ := hdig
    by_cases hcut : 1844674407370955162 ≤ acc
    ·have hF : Lib.parseUintM 9223372036854775807 acc (c :: bs.drop (k + 1)) = .range := by simp [Lib.parseUintM, hd0, hd1, hcut]
     rw [hF] at hdec
     have icut : 1844674407370955162 ≤ a := by omega
     clear hcut hacc hF ha
     go_wp2
     go_ret2
     exact ⟨rfl, rfl⟩
    by_cases hov : 9223372036854775807 < acc * 10 + (c.toNat - 48)
    ·have hF : Lib.parseUintM 9223372036854775807 acc (c :: bs.drop (k + 1)) = .range := by simp [Lib.parseUintM, hd0, hd1, hcut, hov]
     rw [hF] at hdec
     have icut : a < 1844674407370955162 := by omega
     by_cases hw : 18446744073709551616 ≤ acc * 10 + (c.toNat - 48)
     ·have iov : 18446744073709551616 ≤ a * 10 + ((c.toNat : Int) - 48) := by omega
      have hwr : IntKind.u64.wrap (a * 10 + ((c.toNat : Int) - 48)) = a * 10 + ((c.toNat : Int) - 48) - 18446744073709551616 := by
       rw [IntKind.wrap_u64]
       omega
      clear hcut hacc hF hov hw ha
      go_wp2
      go_ret2
      exact ⟨rfl, rfl⟩
     ·have iov : a * 10 + ((c.toNat : Int) - 48) < 18446744073709551616 := by omega
      have iov2 : 9223372036854775807 < a * 10 + ((c.toNat : Int) - 48) := by omega
      clear hcut hacc hF hov hw ha
      go_wp2
      go_ret2
      exact ⟨rfl, rfl⟩
    ·have hF : Lib.parseUintM 9223372036854775807 acc (c :: bs.drop (k + 1)) = Lib.parseUintM 9223372036854775807 (acc * 10 + (c.toNat - 48)) (bs.drop (k + 1)) := by simp [Lib.parseUintM, hd0, hd1, hcut, hov]
     have HN : Hid (a * 10 + ((c.toNat : Int) - 48) = ((acc * 10 + (c.toNat - 48) : Nat) : Int) ∧ acc * 10 + (c.toNat - 48) ≤ 9223372036854775807 ∧ Lib.parseUintM 9223372036854775807 0 bs = Lib.parseUintM 9223372036854775807 (acc * 10 + (c.toNat - 48)) (bs.drop (k + 1))) := Lib.hid ⟨by omega, by omega, hdec.trans hF⟩
     have icut : a < 1844674407370955162 := by omega
     have iov : a * 10 + ((c.toNat : Int) - 48) ≤ 9223372036854775807 := by omega
     clear hcut hacc hF hov hdec ha
     go_wp2
     refine ⟨⟨k + 1, acc * 10 + (c.toNat - 48), a * 10 + ((c.toNat : Int) - 48), rfl, (by first | rfl | (congr 1; omega)), (by first | rfl | (congr 1; omega)), by omega, HN⟩, by simp [intOf]; omega⟩
   ·-- NO DIGIT: whatever way the text goes: (0, ErrSyntax)
    have hF : Lib.parseUintM 9223372036854775807 acc (c :: bs.drop (k + 1)) = Lib.NumEnd.syntax := by simp [Lib.parseUintM, hdig]
    rw [hF] at hdec
    clear hacc hF ha
    have hv0 := bits_lo_u8 .or (c.toNat : Int) 32
    have hv1 := bits_hi_u8 .or (c.toNat : Int) 32
    have hu0 := bits_lo_u8 .or 95 32
    have hu1 := bits_hi_u8 .or 95 32
    go_wp2_with (go_at_fn (ρ.f 321); refine (Any.internal_strconv_lower { L with } _ _).mono ?_; rintro e w' ⟨rfl, rfl⟩)
    all_goals go_ret2
    all_goals first | exact ⟨rfl, rfl⟩ | exact ⟨by rw [hdec]; rfl, rfl⟩
  ·-- THE BYTES ARE AT AN END
   have hkk : k = t.size := by omega
   subst hkk
   have hF : Lib.parseUintM 9223372036854775807 acc (bs.drop t.size) = .ok acc := by rw [List.drop_eq_nil_of_le (by omega)]; rfl
   rw [hF] at hdec
   subst ha
   clear hacc hF a0 a1
   go_wp2
   go_ret2
   exact ⟨rfl, rfl⟩
set_option maxRecDepth 100000 in
theorem Any.internal_strconv_ParseUint_10_empty63 (L : Lays.n287 P ρ) (w : World) :
 Calls P (ρ.f 287) #[.string ⟨#[]⟩, .int .i64 10, .int .i64 63] w fun e w' => e = .returned (Lib.uintTupleM (ρ.t 167) 0 Lib.NumEnd.syntax) ∧ w' = w := by
 have mixed := L.mixed
 have t9 := L.t9; have a9 := L.a9; have z9 := L.z9; have v9 := L.v9
 have t3 := L.t3; have a3 := L.a3; have z3 := L.z3; have v3 := L.v3
 have t53 := L.t53; have a53 := L.a53; have z53 := L.z53; have v53 := L.v53
 have t75 := L.t75; have a75 := L.a75; have z75 := L.z75; have v75 := L.v75
 have t4 := L.t4; have a4 := L.a4; have z4 := L.z4; have v4 := L.v4
 have t167 := L.t167; have a167 := L.a167; have z167 := L.z167; have v167 := L.v167
 have t5 := L.t5; have a5 := L.a5; have z5 := L.z5; have v5 := L.v5
 have t46 := L.t46; have a46 := L.a46; have z46 := L.z46; have v46 := L.v46
 have t37 := L.t37; have a37 := L.a37; have z37 := L.z37; have v37 := L.v37
 have t0 := L.t0; have a0 := L.a0; have z0 := L.z0; have v0 := L.v0
 go_enter L.f287, Body.n287_ntmps ρ
 go_wp2
 go_ret2
 exact ⟨rfl, rfl⟩
end Go.Proofs

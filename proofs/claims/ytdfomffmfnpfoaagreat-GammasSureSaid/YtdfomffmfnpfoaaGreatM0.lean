/- What the functions compute, in plain Lean: the small layers. -/
import Derived.Test.YtdfomffmfnpfoaaGreatSLm
import Derived.Laws.RangeAny
set_option linter.unusedSimpArgs false
set_option linter.unusedVariables false
namespace Go.SL
open Go
structure SpanM where
  a : ByteArray
  b : ByteArray
structure OpM where
  kind : UInt8
  key : ByteArray
  to : ByteArray
  val : UInt32
structure RowM where
  key : ByteArray
  val : UInt32
structure ChgM where
  key : ByteArray
  val : UInt32
  gone : Bool
def SpanM.c (s : SpanM) : List Value := [.string s.a, .string s.b]
def OpM.c (x : OpM) : List Value := [.int .u8 x.kind.toNat, .string x.key, .string x.to, .int .u32 x.val.toNat]
def RowM.c (x : RowM) : List Value := [.string x.key, .int .u32 x.val.toNat]
def ChgM.c (x : ChgM) : List Value := [.string x.key, .int .u32 x.val.toNat, .bool x.gone]
def SpanM.v (s : SpanM) : Value := .agg #[.string s.a, .string s.b]
def OpM.v (x : OpM) : Value := .agg #[.int .u8 x.kind.toNat, .string x.key, .string x.to, .int .u32 x.val.toNat]
def RowM.v (x : RowM) : Value := .agg #[.string x.key, .int .u32 x.val.toNat]
def ChgM.v (x : ChgM) : Value := .agg #[.string x.key, .int .u32 x.val.toNat, .bool x.gone]
theorem spanE : EncOk 2 SpanM.c := ⟨fun _ => rfl, fun _ => rfl⟩
theorem opE : EncOk 4 OpM.c := ⟨fun _ => rfl, fun _ => rfl⟩
theorem rowE : EncOk 2 RowM.c := ⟨fun _ => rfl, fun _ => rfl⟩
theorem chgE : EncOk 3 ChgM.c := ⟨fun _ => rfl, fun _ => rfl⟩
def sIn (k a b : ByteArray) : Bool := (sLt a k || sEq a k) && (sLt k b || sEq k b)
def spanOf (x : OpM) : SpanM := ⟨x.key, if x.kind = 4 then x.to else x.key⟩
def meet (a b : SpanM) : Bool := sIn (sMax a.a b.a) a.a a.b && sIn (sMax a.a b.a) b.a b.b
def one (k : ByteArray) : SpanM := ⟨k, k⟩
def writes (x : OpM) : Bool := x.kind == 2 || x.kind == 3

/-! keys -/
/-- All runes of a text, from a byte on, are as one asks for. -/
def allFrom (p : Int → Bool) (s : ByteArray) : Nat → Nat → Bool
  | 0, _ => true
  | k + 1, i => if i < s.size then p (Utf8.decode s i).1 && allFrom p s k (i + (Utf8.decode s i).2) else true
def allR (p : Int → Bool) (s : ByteArray) : Bool := allFrom p s s.size 0
def keyRune (c : Int) : Bool := (decide (c ≥ 97) && decide (c ≤ 122)) || (decide (c ≥ 48) && decide (c ≤ 57)) || c == 95
def keyOk (s : ByteArray) : Bool := !(sEq s ⟨#[]⟩) && decide ((s.size : Int) ≤ 16) && allR keyRune s
def opOk (x : OpM) : Bool := decide ((x.kind.toNat : Int) ≥ 1) && decide ((x.kind.toNat : Int) ≤ 4) && keyOk x.key && (if x.kind = 4 then keyOk x.to else sEq x.to ⟨#[]⟩) && (x.val == 0 || x.kind == 2)
def chgOk (c : ChgM) : Bool := keyOk c.key && (!c.gone || c.val == 0)
theorem flat_part {α β : Type} (f : α → List β) {l : List α} {x : Nat} {c : α} (hc : l[x]? = some c) : ((l.take x).flatMap f).length + (f c).length ≤ (l.flatMap f).length := by
  have hlt := idx_lt hc
  have e2 : l.drop x = c :: l.drop (x + 1) := by rw [List.drop_eq_getElem_cons hlt]; rw [List.getElem?_eq_getElem hlt] at hc; cases hc; rfl
  have e1 : ((l.take x ++ l.drop x).flatMap f).length = (l.flatMap f).length := by rw [List.take_append_drop]
  rw [e2, List.flatMap_append, List.flatMap_cons] at e1
  simp only [List.length_append] at e1
  omega
theorem take_snoc {α : Type} {l : List α} {x : Nat} {c : α} (hc : l[x]? = some c) : l.take (x + 1) = l.take x ++ [c] := by rw [List.take_add_one, hc]; rfl
theorem width_pos (s : ByteArray) (pos : Nat) (h : pos < s.size) : 1 ≤ (Utf8.decode s pos).2 := by
  by_cases ha : (s[pos]'h).toNat < 128
  · rw [decode_ascii s pos h ha]; exact Nat.le_refl _
  · exact (decode_high s pos h (by omega)).2
end Go.SL

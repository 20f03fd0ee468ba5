/- What the functions compute, in plain Lean: a store by numbers. -/
import Derived.Test.YtdfomffmfnpfoaaGreatWA
import Derived.Test.YtdfomffmfnpfoaaGreatSLr
set_option linter.unusedSimpArgs false
set_option linter.unusedVariables false
namespace Go.SL
open Go
/-- A transaction that is open, and where it lies. -/
structure TxV where
  id : UInt32
  num : UInt32
  own : List ChgM
  q : Nat
  sv : SV
structure GamV where
  d : DiskM
  at_ : Nat
  rows : List RowM
  nums : List (ByteArray × UInt32)
  last : UInt32
  looks : List (UInt32 × SpanM)
  txs : List TxV
def findT (ts : List TxV) (n : UInt32) : Option TxV := ts.find? fun t => decide (t.id = n)
def delT (ts : List TxV) (n : UInt32) : List TxV := ts.eraseP fun t => decide (t.id = n)
def kvT (t : TxV) : UInt32 × Value := (t.id, .pointer (some ⟨t.q, 0, none⟩))
theorem mget_kv (ts : List TxV) (n : UInt32) : mget (ts.map kvT) n = (findT ts n).map fun t => .pointer (some ⟨t.q, 0, none⟩) := by
  unfold mget findT
  induction ts with
  | nil => rfl
  | cons t ts ih =>
    simp only [List.map_cons, List.find?_cons, kvT]
    by_cases h : t.id = n
    · simp [h]
    · simp only [h, decide_false]; exact ih
theorem mdel_kv (ts : List TxV) (n : UInt32) : mdel (ts.map kvT) n = (delT ts n).map kvT := by
  unfold mdel midx delT
  induction ts with
  | nil => rfl
  | cons t ts ih =>
    simp only [List.map_cons, List.findIdx?_cons, List.eraseP_cons, kvT]
    by_cases h : t.id = n
    · simp [h]
    · simp only [h, decide_false, Bool.false_eq_true, if_false, cond_false]
      cases hm : List.findIdx? (fun p : UInt32 × Value => decide (p.1 = n)) (ts.map kvT) with
      | none => rw [hm] at ih; simp [ih, kvT]
      | some j => rw [hm] at ih; simp only [Option.map_some, List.eraseIdx_cons_succ, List.map_cons]; rw [← ih]; rfl
theorem mset_kv (ts : List TxV) (t : TxV) (h : findT ts t.id = none) : mset (ts.map kvT) t.id (.pointer (some ⟨t.q, 0, none⟩)) = (ts ++ [t]).map kvT := by
  have h1 : midx (ts.map kvT) t.id = none := by rw [midx_none, mget_kv, h]; rfl
  simp [mset, h1, kvT]
def minL (ts : List TxV) (m : UInt32) : UInt32 := ts.foldl (fun m t => if t.num < m then t.num else m) m
theorem min_swap (m a b : UInt32) : (if b < (if a < m then a else m) then b else (if a < m then a else m)) = (if a < (if b < m then b else m) then a else (if b < m then b else m)) := by
  simp only [UInt32.lt_iff_toNat_lt]
  apply UInt32.toNat_inj.1
  repeat' split
  all_goals first | rfl | omega
theorem minL_mid (A B : List TxV) (t : TxV) (m : UInt32) : minL (A ++ t :: B) m = minL (A ++ B) (if t.num < m then t.num else m) := by
  induction A generalizing m with
  | nil => rfl
  | cons a A ih =>
    show minL (A ++ t :: B) _ = minL (A ++ B) _
    rw [ih]; congr 1; exact min_swap m a.num t.num
def endsG (s : GamV) (n : UInt32) : GamV :=
  { s with txs := delT s.txs n, looks := s.looks.filter fun x => !decide (x.1 < minL (delT s.txs n) s.last) }
def changes (t : TxV) (p : SpanM) : Bool := t.own.any fun c => meet (one c.key) p
def underL (ts : List TxV) (n : UInt32) (p : SpanM) : List UInt32 := (ts.filter fun o => !decide (o.id = n) && changes o p).map (·.num)
theorem underL_app (A B : List TxV) (n : UInt32) (p : SpanM) : underL (A ++ B) n p = underL A n p ++ underL B n p := by simp [underL]
theorem underL_one (t : TxV) (n : UInt32) (p : SpanM) : underL [t] n p = if t.id = n then [] else if changes t p then [t.num] else [] := by
  unfold underL
  by_cases h : t.id = n
  · simp [h]
  · cases h2 : changes t p <;> simp [h, h2]
theorem underL_mid (A B : List TxV) (t : TxV) (n : UInt32) (p : SpanM) : underL (A ++ t :: B) n p = underL A n p ++ (underL [t] n p ++ underL B n p) := by
  rw [show A ++ t :: B = A ++ ([t] ++ B) by simp, underL_app, underL_app]
def numsLate (nums : List (ByteArray × UInt32)) (num : UInt32) (p : SpanM) : Bool := nums.any fun x => decide (num < x.2) && meet (one x.1) p
def lateG (s : GamV) (t : TxV) (p : SpanM) (w : Bool) : Bool :=
  numsLate s.nums t.num p || (w && ((underL s.txs t.id p).any (fun n => decide (t.num < n)) || s.looks.any fun x => decide (t.num < x.1) && meet x.2 p))
def setN (l : List (ByteArray × UInt32)) (k : ByteArray) (num : UInt32) : List (ByteArray × UInt32) := match l.findIdx? (fun p => decide (p.1 = k)) with
  | some i => l.set i (k, num)
  | none => l ++ [(k, num)]
def keptG (nums : List (ByteArray × UInt32)) (num : UInt32) (cs : List ChgM) : List (ByteArray × UInt32) := cs.foldl (fun l c => setN l c.key num) nums
def numC (x : ByteArray × UInt32) : ByteArray × Value := (x.1, .int .u32 x.2.toNat)
theorem mset_num (l : List (ByteArray × UInt32)) (k : ByteArray) (num : UInt32) : mset (l.map numC) k (.int .u32 num.toNat) = (setN l k num).map numC := by
  have h : midx (l.map numC) k = l.findIdx? (fun p => decide (p.1 = k)) := by
    unfold midx; rw [List.findIdx?_map]; rfl
  unfold mset setN
  rw [h]
  cases List.findIdx? (fun p : ByteArray × UInt32 => decide (p.1 = k)) l with
  | none => simp [numC]
  | some i => simp [numC, List.map_set]
theorem keptG_snoc (nums : List (ByteArray × UInt32)) (num : UInt32) (cs : List ChgM) (c : ChgM) : keptG nums num (cs ++ [c]) = setN (keptG nums num cs) c.key num := by simp [keptG]
def lookC (x : UInt32 × SpanM) : List Value := [.int .u32 x.1.toNat, .string x.2.a, .string x.2.b]
theorem lookE : EncOk 3 lookC := ⟨fun _ => rfl, fun _ => rfl⟩
structure GI where
  lp : Nat
  mp : Nat
  nm : Value
  lm : Value
  sv : SV
theorem map_mid {α β : Type} {f : α → β} {l : List α} {a b : List β} {y : β} (h : l.map f = a ++ y :: b) : ∃ A t B, l = A ++ t :: B ∧ a = A.map f ∧ y = f t ∧ b = B.map f := by
  obtain ⟨A, C, rfl, h1, h2⟩ := List.map_eq_append_iff.1 h
  obtain ⟨t, B, rfl, h3, h4⟩ := List.map_eq_cons_iff.1 h2
  exact ⟨A, t, B, rfl, h1.symm, h3.symm, h4.symm⟩
/-- A step through a map of transactions: the one that comes is one's own, or another. -/
theorem kv_cases {ts : List TxV} {a b : List (UInt32 × Value)} {y : UInt32 × Value} {G : Prop} (hx : ts.map kvT = a ++ y :: b) (n : UInt32)
    (h1 : ∀ A t B, ts = A ++ t :: B → a = A.map kvT → y = kvT t → b = B.map kvT → t.id = n → G) (h2 : ∀ A t B, ts = A ++ t :: B → a = A.map kvT → y = kvT t → b = B.map kvT → t.id ≠ n → G) : G := by
  obtain ⟨A, t, B, e1, e2, e3, e4⟩ := map_mid hx
  by_cases h : t.id = n
  · exact h1 A t B e1 e2 e3 e4 h
  · exact h2 A t B e1 e2 e3 e4 h
theorem mem_mid {α : Type} {l : List α} {x : α} (h : x ∈ l) : ∃ A B, l = A ++ x :: B := List.append_of_mem h
theorem find_mid {ts : List TxV} {n : UInt32} {t : TxV} (h : findT ts n = some t) : t.id = n ∧ ∃ A B, ts = A ++ t :: B ∧ delT ts n = A ++ B ∧ ∀ x ∈ A, x.id ≠ n := by
  unfold findT at h
  induction ts with
  | nil => simp at h
  | cons x ts ih =>
    rw [List.find?_cons] at h
    by_cases e : x.id = n
    · simp [e] at h; subst h
      exact ⟨e, [], ts, rfl, by simp [delT, e], by simp⟩
    · simp [e] at h
      obtain ⟨h1, A, B, h2, h3, h4⟩ := ih (by simpa using h)
      refine ⟨h1, x :: A, B, by simp [h2], by simp only [delT, List.eraseP_cons, e, decide_false, cond_false, List.cons_append] at h3 ⊢; rw [h3], ?_⟩
      intro y hy
      rcases List.mem_cons.1 hy with rfl | hy
      · exact e
      · exact h4 y hy
theorem nodup_mid {A B : List TxV} {t : TxV} (h : ((A ++ t :: B).map (·.id)).Nodup) : ∀ x ∈ A ++ B, x.id ≠ t.id := by
  rw [List.map_append, List.map_cons] at h
  obtain ⟨h1, h2, h3⟩ := List.nodup_append.1 h
  have h4 := (List.nodup_cons.1 h2).1
  intro x hx e
  rcases List.mem_append.1 hx with hx | hx
  · exact h3 x.id (List.mem_map.2 ⟨x, hx, rfl⟩) t.id (by simp) e
  · exact h4 (e ▸ List.mem_map.2 ⟨x, hx, rfl⟩)
/-- What the slots of a store may hold. -/
structure GamOk (s : GamV) (b : Nat) : Prop where
  dok : s.d.ok
  hat : s.at_ ≤ s.d.sure.length
  waits : s.d.waits = []
  rising : Rising s.rows
  sum : s.rows.length + (s.txs.map fun t => t.own.length).sum ≤ b
  looks : s.looks.length ≤ b
  ids : (s.txs.map (·.id)).Nodup
  own : ∀ t ∈ s.txs, ∀ c ∈ t.own, chgOk c = true
  bb : b ≤ 1000000000
theorem GamOk.own_le {s : GamV} {b : Nat} (h : GamOk s b) {t : TxV} (ht : t ∈ s.txs) : s.rows.length + t.own.length ≤ b := by
  have := h.sum
  obtain ⟨A, B, e⟩ := mem_mid ht
  rw [e] at this
  simp at this; omega
theorem under_other {ts A B : List TxV} {t y : TxV} (h : ts = A ++ t :: B) (hy : y ∈ ts) (hid : y.id ≠ t.id) : y ∈ A ++ B := by
  rw [h] at hy
  simp only [List.mem_append, List.mem_cons] at hy ⊢
  rcases hy with h | rfl | h
  · exact .inl h
  · exact absurd rfl hid
  · exact .inr h
theorem under_same {ts A B : List TxV} {t y : TxV} (h : ts = A ++ t :: B) (hnd : (ts.map (·.id)).Nodup) (hy : y ∈ ts) (hid : y.id = t.id) : y = t := by
  rw [h] at hy hnd
  simp only [List.mem_append, List.mem_cons] at hy
  have hn := nodup_mid hnd
  rcases hy with h | rfl | h
  · exact absurd hid (hn y (by simp [h]))
  · rfl
  · exact absurd hid (hn y (by simp [h]))
theorem numsLate_mid (A B : List (ByteArray × UInt32)) (x : ByteArray × UInt32) (n : UInt32) (p : SpanM) : numsLate (A ++ x :: B) n p = ((decide (n < x.2) && meet (one x.1) p) || numsLate (A ++ B) n p) := by
  unfold numsLate
  simp only [List.any_append, List.any_cons]
  cases decide (n < x.2) && meet (one x.1) p <;> simp
section
variable {P : Program} {r : Option Nat} {g : World} {Γ : Env} {L M : List HP} {dst : Option Tmp} {t : TypeId} {pos : String} {aft : Array Edge} {gd : Option (Nat × Bool)}
theorem e_lookT {x i : Operand} {T e kt : TypeId} {d : TypeDesc} {n : UInt32} {ts : List TxV} {m : Value} (ht : P.underlying T = some (.map kt e)) (hk : KeyOk P kt d eU32) (hz : (P.info? e).bind (·.zero) = some (.pointer none)) (hx : ev Γ x = some m := by rfl) (hi : ev Γ i = some (.int .u32 n.toNat) := by rfl) (hp : Pick L (Mp eU32 m (List.map kvT ts)) M := by repeat first | exact .z | apply Pick.s) :
    EO P g ⟨dst, .lookup T x i false, t, pos, aft, gd⟩ Γ L (.pointer ((findT ts n).map fun t => ⟨t.q, 0, none⟩)) := by
  have h := e_lookup (g := g) (L := L) (dst := dst) (t := t) (pos := pos) (aft := aft) (gd := gd) (x := x) (i := i) (k := n) ht hk hz hx hi hp
  rw [mget_kv] at h
  cases hf : findT ts n with
  | none => rw [hf] at h; exact h
  | some t => rw [hf] at h; exact h
end
end Go.SL

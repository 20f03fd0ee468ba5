/- What the functions compute, in plain Lean: what an op of a transaction comes to. -/
import Derived.Test.YtdfomffmfnpfoaaGreatWC
set_option linter.unusedSimpArgs false
set_option linter.unusedVariables false
namespace Go.SL
open Go
inductive DoR
  | err (s : GamV) (e : Nat)
  | put (t : TxV) (c : ChgM)
  | look (t : TxV)
def chgOf (x : OpM) : ChgM := if x.kind = 2 then ⟨x.key, x.val, false⟩ else ⟨x.key, 0, true⟩
def doG (s : GamV) (n : UInt32) (x : OpM) : DoR :=
  if opOk x then match findT s.txs n with
    | none => .err s 6
    | some t => if lateG s t (spanOf x) (writes x) then .err (endsG s n) 9
      else if (underL s.txs t.id (spanOf x)).any (fun m => decide (m < t.num)) then .err s 8
      else if writes x then .put t (chgOf x) else .look t
  else .err s 1
def putT (ts : List TxV) (n : UInt32) (c : ChgM) (sv : SV) : List TxV := ts.map fun o => if o.id = n then { o with own := o.own ++ [c], sv := sv } else o
def putG (s : GamV) (n : UInt32) (c : ChgM) (sv : SV) : GamV := { s with txs := putT s.txs n c sv }
def lookG (s : GamV) (t : TxV) (p : SpanM) : GamV := { s with looks := s.looks ++ [(t.num, p)] }
theorem putT_kv (ts : List TxV) (n : UInt32) (c : ChgM) (sv : SV) : (putT ts n c sv).map kvT = ts.map kvT := by
  unfold putT
  rw [List.map_map]
  apply List.map_congr_left
  intro o _
  simp only [Function.comp]
  split <;> rfl
theorem putT_mid {A B : List TxV} {t : TxV} (h : ((A ++ t :: B).map (·.id)).Nodup) (c : ChgM) (sv : SV) : putT (A ++ t :: B) t.id c sv = A ++ { t with own := t.own ++ [c], sv := sv } :: B := by
  have hn := nodup_mid h
  unfold putT
  rw [List.map_append, List.map_cons, if_pos rfl]
  have e1 : ∀ l : List TxV, (∀ x ∈ l, x.id ≠ t.id) → l.map (fun o => if o.id = t.id then { o with own := o.own ++ [c], sv := sv } else o) = l := fun l hl => by
    conv => rhs; rw [← List.map_id l]
    apply List.map_congr_left
    intro o ho
    rw [if_neg (hl o ho)]; rfl
  rw [e1 A (fun x hx => hn x (by simp [hx])), e1 B (fun x hx => hn x (by simp [hx]))]
theorem Gs_txs {p dp : Nat} {s : GamV} {ts : List TxV} (h : ts.map kvT = s.txs.map kvT) : ∀ S, Gs p dp s S → Gs p dp { s with txs := ts } S := fun S hS => by
  obtain ⟨x, hx⟩ := hS
  exact ⟨x, by simp only [h]; exact hx⟩
/-- What is committed, and where it goes. -/
def recG (t : TxV) : List UInt8 := numB t.num 4 ++ chgsB t.own
def fitsG (s : GamV) (t : TxV) : Prop := (recG t).length ≤ 16384 ∧ s.at_ + secs (recG t).length ≤ s.d.sure.length
instance (s : GamV) (t : TxV) : Decidable (fitsG s t) := by unfold fitsG; infer_instance
def commG (s : GamV) (n : UInt32) (t : TxV) : GamV :=
  let e := endsG s n
  if fitsG s t then { e with d := (addW s.d s.at_ (frame (recG t)) (secs (recG t).length)).sync, at_ := s.at_ + secs (recG t).length, rows := changeR s.rows t.own, nums := keptG s.nums t.num t.own } else e
theorem GamOk.bad {s : GamV} {b : Nat} (h : GamOk s b) {t : TxV} (ht : t ∈ s.txs) : t.own.any (fun c => !chgOk c) = false := by
  rw [List.any_eq_false]
  intro c hc
  simp [h.own t ht c hc]
theorem find_mem {ts : List TxV} {n : UInt32} {t : TxV} (h : findT ts n = some t) : t ∈ ts := List.mem_of_find?_eq_some h
def comG (s : GamV) (n : UInt32) : GamV := match findT s.txs n with
  | none => s
  | some t => commG s n t
def comE (s : GamV) (n : UInt32) : Nat := match findT s.txs n with
  | none => 6
  | some t => if fitsG s t then 0 else 5
def comN (s : GamV) (n : UInt32) : UInt32 := match findT s.txs n with
  | none => 0
  | some t => if fitsG s t then t.num else 0
def begE (s : GamV) (n : UInt32) : Nat := if n = 0 then 1 else if (findT s.txs n).isSome then 7 else if 32 ≤ s.txs.length then 5 else 0
def begG (s : GamV) (n : UInt32) (q : Nat) : GamV := if begE s n = 0 then { s with last := s.last + 1, txs := s.txs ++ [⟨n, s.last + 1, [], q, ⟨none, 0, 0⟩⟩] } else s
def aboE (s : GamV) (n : UInt32) : Nat := if (findT s.txs n).isSome then 0 else 6
def aboG (s : GamV) (n : UInt32) : GamV := if (findT s.txs n).isSome then endsG s n else s
theorem comG_txs {s : GamV} {n : UInt32} {t : TxV} (h : findT s.txs n = some t) : (comG s n).txs = delT s.txs n := by
  unfold comG; rw [h]; simp only [commG]; split <;> rfl
theorem chgB_len (c : ChgM) : 6 ≤ (chgB c).length ∧ (keyOk c.key = true → (chgB c).length ≤ 22) := by
  simp only [chgB, textB, List.length_append, List.length_cons, List.length_nil, bytesOf_len, numB_len]
  refine ⟨by omega, fun h => ?_⟩
  have : c.key.size ≤ 16 := by
    unfold keyOk at h; simp at h; omega
  omega
theorem chgs_len : ∀ (l : List ChgM), 6 * l.length ≤ (l.flatMap chgB).length ∧ ((∀ c ∈ l, chgOk c = true) → (l.flatMap chgB).length ≤ 22 * l.length)
  | [] => ⟨by simp, by simp⟩
  | c :: l => by
    have h1 := chgB_len c
    have h2 := chgs_len l
    simp only [List.flatMap_cons, List.length_append, List.length_cons]
    refine ⟨by omega, fun h => ?_⟩
    have h3 := h1.2 (by have := h c (by simp); unfold chgOk at this; simp at this; exact this.1)
    have h4 := h2.2 fun c hc => h c (by simp [hc])
    omega
theorem recG_len (t : TxV) : (recG t).length = 6 + (t.own.flatMap chgB).length := by
  simp only [recG, chgsB, List.length_append, numB_len]; omega
theorem not_fits {s : GamV} {t : TxV} (h : ¬ t.own.length ≤ 4096) : ¬ fitsG s t := fun hf => by
  have h1 := hf.1
  rw [recG_len] at h1
  have := (chgs_len t.own).1
  omega
end Go.SL

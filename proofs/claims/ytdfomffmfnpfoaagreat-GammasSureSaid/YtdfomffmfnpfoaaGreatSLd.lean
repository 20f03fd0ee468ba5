/- The steps of the walk: slices that are read, slices that are owned. -/
import Derived.Test.YtdfomffmfnpfoaaGreatSLc
set_option linter.unusedSimpArgs false
set_option linter.unusedVariables false
namespace Go.SL
open Go

/-- In the piece 'S' the slice 'u' has 'n' elements of 'z' cells each, the cells 'cs'. -/
def RdS (S : Piece) (z : Nat) (u : Value) (n : Nat) (cs : List Value) : Prop :=
  (n = 0 ∧ cs = [] ∧ ∃ a c, u = .slice a 0 c) ∨
  ∃ (b o c : Nat) (l : List Value) (t : TypeId × (Nat × Nat)), u = .slice (some ⟨b, o, none⟩) n c ∧ n ≤ c ∧ S b = some (.cells (List.toArray l) t.1 t.2) ∧ o + c * z ≤ l.length ∧ cs = (l.drop o).take (n * z)
def Rd (A : HP) (z : Nat) (u : Value) (n : Nat) (cs : List Value) : Prop := ∀ S, A S → RdS S z u n cs
/-- A slice that is owned, with what lies behind it up to its capacity. -/
def Own (E : TypeId) (z : Nat) (u : Value) (n : Nat) (cs : List Value) : HP := fun S =>
  (n = 0 ∧ cs = [] ∧ ∃ a, u = .slice a 0 0) ∨
  ∃ b o c l, u = .slice (some ⟨b, o, none⟩) n c ∧ n ≤ c ∧ c < 9223372036854775808 ∧ S b = some (.cells (List.toArray l) E (0, 0)) ∧ o + c * z ≤ l.length ∧ cs = (l.drop o).take (n * z)
theorem own_rd {E : TypeId} {z n : Nat} {u : Value} {cs : List Value} : Rd (Own E z u n cs) z u n cs := fun S h => by
  rcases h with ⟨h1, h2, a, h3⟩ | ⟨b, o, c, l, h1, h2, _, h4, h5, h6⟩
  · exact .inl ⟨h1, h2, a, 0, h3⟩
  · exact .inr ⟨b, o, c, l, (E, (0, 0)), h1, h2, h4, h5, h6⟩
theorem cl_rd {b z n c o : Nat} {t : TypeId} {l cs : List Value} (hn : n ≤ c) (hc : o + c * z ≤ l.length) (hcs : (l.drop o).take (n * z) = cs) : Rd (cl b t l) z (.slice (some ⟨b, o, none⟩) n c) n cs :=
  fun _ h => .inr ⟨b, o, c, l, (t, (0, 0)), rfl, hn, h, hc, hcs.symm⟩
theorem nil_rd {A : HP} {z : Nat} {a : Option Addr} {c : Nat} : Rd A z (.slice a 0 c) 0 [] := fun _ _ => .inl ⟨rfl, rfl, a, c, rfl⟩
theorem RdS.len {S : Piece} {z n : Nat} {u : Value} {cs : List Value} (h : RdS S z u n cs) : cs.length = n * z := by
  rcases h with ⟨rfl, rfl, _⟩ | ⟨b, o, c, l, t, _, hn, _, hl, rfl⟩
  · simp
  · have : n * z ≤ c * z := Nat.mul_le_mul_right z hn
    simp; omega

/-- The address of a cell of a slice. -/
def elA : Value → Nat → Value
  | .slice (some a) _ _, k => .pointer (some (a.add k))
  | _, _ => .pointer none

section
variable {P : Program} {r : Option Nat} {g : World} {Γ : Env} {L M : List HP} {A : HP} {dst : Option Tmp} {t : TypeId} {pos : String} {aft : Array Edge} {gd : Option (Nat × Bool)}

theorem Sat.rd {w : World} {z n : Nat} {u : Value} {cs : List Value} (h : Sat g L w) (hp : Pick L A M) (hA : Rd A z u n cs) : RdS (heapOf w) z u n cs := by
  obtain ⟨S1, S2, _, h1, _, h3, _⟩ := hp.to h.heap
  rcases hA S1 h3 with h | ⟨b, o, c, l, t, e1, e2, e3, e4, e5⟩
  · exact .inl h
  · exact .inr ⟨b, o, c, l, t, e1, e2, h1 _ _ e3, e4, e5⟩
theorem e_len_rd {x : Operand} {T E z' y z n : Nat} {u : Value} {cs : List Value} (ht : slOf P T = some (E, z', y)) (hx : ev Γ x = some u) (hA : Rd A z u n cs) (hp : Pick L A M := by repeat first | exact .z | apply Pick.s) :
    EO P g ⟨dst, .call ⟨.builtin .len, #[x], #[T]⟩, t, pos, aft, gd⟩ Γ L (.int .i64 n) :=
  e_call_b (args := [x]) (vs := [u]) (by simp [evs, hx]) fun w cs' hw => by
    have hr := hw.rd hp hA
    unfold slOf at ht
    split at ht
    case h_2 => cases ht
    case h_1 hu =>
      rcases hr with ⟨rfl, _, a, c, rfl⟩ | ⟨b, o, c, l, t, rfl, _⟩ <;> simp [builtin, Builtin.len_, run_underlying hu, goInt]
theorem e_ia_rd {x i : Operand} {s e z y n j : Nat} {k : IntKind} {u : Value} {cs : List Value} (hs : slOf P s = some (e, z, y)) (hx : ev Γ x = some u) (hi : ev Γ i = some (.int k j)) (hA : Rd A z u n cs) (hj : j < n) (hp : Pick L A M := by repeat first | exact .z | apply Pick.s) :
    EO P g ⟨dst, .indexAddr s x i, t, pos, aft, gd⟩ Γ L (elA u (j * z)) :=
  .of (by simp) fun ρ hρ w hw => by
    have hr := hw.rd hp hA
    unfold slOf at hs
    split at hs
    case h_2 => cases hs
    case h_1 hu =>
      simp only [Option.map_eq_some_iff] at hs
      obtain ⟨inf, hinf, hs⟩ := hs
      cases hs
      have hz : szOf P e = some inf.size := by simp [szOf, hinf]
      rcases hr with ⟨rfl, _⟩ | ⟨b, o, c, l, t, rfl, hn, _, hl, rfl⟩
      · omega
      · simp [execOp, hρ x _ (by simp [Op.operands]) hx, hρ i _ (by simp [Op.operands]) hi, Instr.indexAt, asIntOf, run_underlying hu, run_sizeOf hz, hj, elA]
theorem RdS.base {S : Piece} {z n k : Nat} {u : Value} {cs : List Value} (h : RdS S z u n cs) (hk : k < n * z) : ∃ (b o c : Nat) (l : List Value) (t : TypeId × (Nat × Nat)), elA u k = .pointer (some ⟨b, o + k, none⟩) ∧ u = .slice (some ⟨b, o, none⟩) n c ∧ S b = some (.cells (List.toArray l) t.1 t.2) ∧ (∀ i, i < n * z → cs[i]? = l[o + i]?) ∧ o + n * z ≤ l.length ∧ cs = (l.drop o).take (n * z) := by
  rcases h with ⟨rfl, _⟩ | ⟨b, o, c, l, t, rfl, hn, hS, hl, rfl⟩
  · simp at hk
  · have : n * z ≤ c * z := Nat.mul_le_mul_right z hn
    exact ⟨b, o, c, l, t, by simp [elA, add_none], rfl, hS, fun i hi => by rw [List.getElem?_take_of_lt hi, List.getElem?_drop], by omega, rfl⟩
theorem e_fa_rd {x : Operand} {s i f k z n : Nat} {u : Value} {cs : List Value} (hf : fldOf P s i = some f) (hx : ev Γ x = some (elA u k)) (hA : Rd A z u n cs) (hk : k < n * z) (hp : Pick L A M := by repeat first | exact .z | apply Pick.s) :
    EO P g ⟨dst, .fieldAddr s x i, t, pos, aft, gd⟩ Γ L (elA u (k + f)) := fun ρ w hρ hw => by
  obtain ⟨b, o, c, l, t', h1, h2, _⟩ := (hw.rd hp hA).base hk
  have h := e_fa (P := P) (g := g) (Γ := Γ) (L := L) (dst := dst) (t := t) (pos := pos) (aft := aft) (gd := gd) (x := x) (b := b) (o := o + k) hf (hx.trans (congrArg some h1)) ρ w hρ hw
  subst h2
  simpa [elA, add_none, Nat.add_assoc] using h
theorem e_load_rd {x : Operand} {T k z n : Nat} {u v : Value} {cs : List Value} (ht : aggOf P T = some none) (hx : ev Γ x = some (elA u k)) (hA : Rd A z u n cs) (hv : cs[k]? = some v) (hp : Pick L A M := by repeat first | exact .z | apply Pick.s) :
    EO P g ⟨dst, .load T x, t, pos, aft, gd⟩ Γ L v :=
  .of (by simp) fun ρ hρ w hw => by
    have hr := hw.rd hp hA
    have hk : k < n * z := by
      rw [← hr.len]
      rcases Nat.lt_or_ge k cs.length with h | h
      · exact h
      · rw [List.getElem?_eq_none h] at hv; cases hv
    obtain ⟨b, o, c, l, t', h1, h2, h3, h4, h5, _⟩ := hr.base hk
    have hc : isCl w b l := ⟨t', h3⟩
    have hx' := hρ x _ (by simp [Op.operands]) hx
    rw [h1] at hx'
    simp [execOp, hx', Instr.loadAt, Instr.sureAddr, run_loadVar1 ht hc ((h4 k hk).symm.trans hv)]
theorem e_loadN_rd {x : Operand} {T k z n m : Nat} {u : Value} {cs vs : List Value} (ht : aggOf P T = some (some m)) (hx : ev Γ x = some (elA u k)) (hA : Rd A z u n cs) (hv : (cs.drop k).take m = vs) (hk : k + m ≤ n * z) (hm : 0 < m) (hp : Pick L A M := by repeat first | exact .z | apply Pick.s) :
    EO P g ⟨dst, .load T x, t, pos, aft, gd⟩ Γ L (.agg vs.toArray) :=
  .of (by simp) fun ρ hρ w hw => by
    obtain ⟨b, o, c, l, t', h1, h2, h3, h4, h5, h6⟩ := (hw.rd hp hA).base (k := k) (by omega)
    have hc : isCl w b l := ⟨t', h3⟩
    have hx' := hρ x _ (by simp [Op.operands]) hx
    rw [h1] at hx'
    have e : (l.drop (o + k)).take m = vs := by
      rw [← hv, h6, List.drop_take, List.take_take, List.drop_drop, Nat.min_eq_left (by omega)]
    simp [execOp, hx', Instr.loadAt, Instr.sureAddr, run_loadVarN ht hc (b := b) (o := o + k) (by omega), e]

/-! ### Elements of a kind -/
structure EncOk {α : Type} (z : Nat) (enc : α → List Value) : Prop where
  len : ∀ x, (enc x).length = z
  one : ∀ x, ones (enc x) = true
theorem flat_len {α : Type} {z : Nat} {enc : α → List Value} (he : EncOk z enc) (xs : List α) : (xs.flatMap enc).length = xs.length * z := by
  induction xs with
  | nil => simp
  | cons x xs ih => simp [ih, he.len, Nat.add_mul]; omega
theorem flat_drop {α : Type} {z : Nat} {enc : α → List Value} (he : EncOk z enc) (xs : List α) (j : Nat) : (xs.flatMap enc).drop (j * z) = (xs.drop j).flatMap enc := by
  induction xs generalizing j with
  | nil => simp
  | cons x xs ih =>
    cases j with
    | zero => simp
    | succ j =>
      simp only [List.flatMap_cons, List.drop_succ_cons]
      rw [List.drop_append, he.len, ← ih]
      have e1 : (j + 1) * z - z = j * z := by rw [Nat.add_mul]; omega
      rw [e1, List.drop_eq_nil_of_le (by rw [he.len, Nat.add_mul]; omega)]; rfl
theorem flat_take {α : Type} {z : Nat} {enc : α → List Value} (he : EncOk z enc) (xs : List α) (j : Nat) : (xs.flatMap enc).take (j * z) = (xs.take j).flatMap enc := by
  induction xs generalizing j with
  | nil => simp
  | cons x xs ih =>
    cases j with
    | zero => simp
    | succ j =>
      simp only [List.flatMap_cons, List.take_succ_cons]
      rw [List.take_append, he.len, ← ih]
      have e1 : (j + 1) * z - z = j * z := by rw [Nat.add_mul]; omega
      rw [e1, List.take_of_length_le (by rw [he.len, Nat.add_mul]; omega)]
theorem flat_at {α : Type} {z : Nat} {enc : α → List Value} (he : EncOk z enc) {xs : List α} {j : Nat} {x : α} (hx : xs[j]? = some x) (f : Nat) (hf : f < z) : (xs.flatMap enc)[j * z + f]? = (enc x)[f]? := by
  have hlt : j < xs.length := by
    rcases Nat.lt_or_ge j xs.length with h | h
    · exact h
    · rw [List.getElem?_eq_none h] at hx; cases hx
  have e : xs.drop j = x :: xs.drop (j + 1) := by
    rw [List.drop_eq_getElem_cons hlt]
    have := List.getElem?_eq_getElem hlt
    rw [this] at hx; cases hx; rfl
  rw [← List.getElem?_drop, flat_drop he, e, List.flatMap_cons, List.getElem?_append_left (by rw [he.len]; exact hf)]
theorem flat_el {α : Type} {z : Nat} {enc : α → List Value} (he : EncOk z enc) {xs : List α} {j : Nat} {x : α} (hx : xs[j]? = some x) : ((xs.flatMap enc).drop (j * z)).take z = enc x := by
  have hlt : j < xs.length := by
    rcases Nat.lt_or_ge j xs.length with h | h
    · exact h
    · rw [List.getElem?_eq_none h] at hx; cases hx
  have e : xs.drop j = x :: xs.drop (j + 1) := by
    rw [List.drop_eq_getElem_cons hlt]
    have := List.getElem?_eq_getElem hlt
    rw [this] at hx; cases hx; rfl
  rw [flat_drop he, e, List.flatMap_cons, List.take_append_of_le_length (by rw [he.len]; omega), List.take_of_length_le (by rw [he.len]; omega)]

/-- A slice that is read, as a list. -/
def RL {α : Type} (A : HP) (z : Nat) (enc : α → List Value) (u : Value) (xs : List α) : Prop := Rd A z u xs.length (xs.flatMap enc)
/-- A slice that is owned, as a list. -/
def Sl {α : Type} (E z : Nat) (enc : α → List Value) (u : Value) (xs : List α) : HP := Own E z u xs.length (xs.flatMap enc)
theorem sl_rl {α : Type} {E z : Nat} {enc : α → List Value} {u : Value} {xs : List α} : RL (Sl E z enc u xs) z enc u xs := own_rd
theorem nil_rl {α : Type} {z : Nat} {enc : α → List Value} {a : Option Addr} {c : Nat} : RL A z enc (.slice a 0 c) ([] : List α) := nil_rd

section lists
variable {α : Type} {z : Nat} {enc : α → List Value} {u : Value} {xs : List α}
theorem el_len {x : Operand} {T E z' y : Nat} (ht : slOf P T = some (E, z', y)) (hA : RL A z enc u xs) (hx : ev Γ x = some u := by rfl) (hp : Pick L A M := by repeat first | exact .z | apply Pick.s) :
    EO P g ⟨dst, .call ⟨.builtin .len, #[x], #[T]⟩, t, pos, aft, gd⟩ Γ L (.int .i64 xs.length) := e_len_rd ht hx hA hp
theorem el_ia {x i : Operand} {s e y j : Nat} {k : IntKind} (hs : slOf P s = some (e, z, y)) (hA : RL A z enc u xs) (hj : j < xs.length) (hx : ev Γ x = some u := by rfl) (hi : ev Γ i = some (.int k j) := by rfl) (hp : Pick L A M := by repeat first | exact .z | apply Pick.s) :
    EO P g ⟨dst, .indexAddr s x i, t, pos, aft, gd⟩ Γ L (elA u (j * z)) := e_ia_rd hs hx hi hA hj hp
theorem el_fa {x : Operand} {s i f j : Nat} (hf : fldOf P s i = some f) (hA : RL A z enc u xs) (hj : j < xs.length) (hz : 0 < z := by decide) (hx : ev Γ x = some (elA u (j * z)) := by rfl) (hp : Pick L A M := by repeat first | exact .z | apply Pick.s) :
    EO P g ⟨dst, .fieldAddr s x i, t, pos, aft, gd⟩ Γ L (elA u (j * z + f)) := e_fa_rd hf hx hA (by
      have : (j + 1) * z ≤ xs.length * z := Nat.mul_le_mul_right z hj
      rw [Nat.add_mul] at this; omega) hp
/-- A cell of an element. -/
theorem el_load {x : Operand} {T j f : Nat} {v : Value} {a : α} (ht : aggOf P T = some none) (he : EncOk z enc) (hA : RL A z enc u xs) (ha : xs[j]? = some a) (hx : ev Γ x = some (elA u (j * z + f)) := by rfl) (hf : Nat.blt f z = true := by rfl) (hv : (enc a)[f]? = some v := by rfl) (hp : Pick L A M := by repeat first | exact .z | apply Pick.s) :
    EO P g ⟨dst, .load T x, t, pos, aft, gd⟩ Γ L v := e_load_rd ht hx hA ((flat_at he ha f (by simpa using hf)).trans hv) hp
theorem el_load0 {x : Operand} {T j : Nat} {v : Value} {a : α} (ht : aggOf P T = some none) (he : EncOk z enc) (hA : RL A z enc u xs) (ha : xs[j]? = some a) (hz : 0 < z := by decide) (hx : ev Γ x = some (elA u (j * z)) := by rfl) (hv : (enc a)[0]? = some v := by rfl) (hp : Pick L A M := by repeat first | exact .z | apply Pick.s) :
    EO P g ⟨dst, .load T x, t, pos, aft, gd⟩ Γ L v := e_load_rd ht hx hA ((flat_at he ha 0 hz).trans hv) hp
theorem idx_lt {j : Nat} {a : α} (ha : xs[j]? = some a) : j < xs.length := by
  rcases Nat.lt_or_ge j xs.length with h | h
  · exact h
  · rw [List.getElem?_eq_none h] at ha; cases ha
theorem el_loadN {x : Operand} {T j : Nat} {vs : List Value} {a : α} (ht : aggOf P T = some (some z)) (he : EncOk z enc) (hA : RL A z enc u xs) (ha : xs[j]? = some a) (hz : 0 < z := by decide) (hx : ev Γ x = some (elA u (j * z)) := by rfl) (hv : Ext (enc a) 0 z vs := by repeat first | exact Ext.done rfl | apply Ext.here rfl rfl | apply Ext.there rfl) (hp : Pick L A M := by repeat first | exact .z | apply Pick.s) :
    EO P g ⟨dst, .load T x, t, pos, aft, gd⟩ Γ L (.agg vs.toArray) := by
  refine e_loadN_rd ht hx hA ?_ ?_ hz hp
  · rw [flat_el he ha, ← hv.ok.1, List.drop_zero, List.take_of_length_le (by rw [he.len]; omega)]
  · have : (j + 1) * z ≤ xs.length * z := Nat.mul_le_mul_right z (idx_lt ha)
    rw [Nat.add_mul] at this; omega
end lists
end
end Go.SL

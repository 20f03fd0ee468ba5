/- The steps of the walk: operations that leave the world alone. -/
import Derived.Test.YtdfomffmfnpfoaaGreatSLa
import Derived.Laws.Entries
import Derived.Laws.World
set_option linter.unusedSimpArgs false
set_option linter.unusedVariables false
namespace Go.SL
open Go

/-! ### What the walk asks of the types -/
section facts
variable (P : Program)
def szOf (t : TypeId) : Option Nat := (P.info? t).map (·.size)
/-- none: one cell; some n: an aggregate of n cells. -/
def aggOf (t : TypeId) : Option (Option Nat) := match P.underlying t with
  | some (.struct _) | some (.array _ _) => (szOf P t).map some
  | some _ => some none
  | none => none
def zeroOf (t : TypeId) : Option (List Value) := ((P.info? t).bind (·.zero)).map (·.cells.toList)
def fldOf (s i : Nat) : Option Nat := match P.underlying s with
  | some (.struct fs) => (fs[i]?).bind fun f => (szOf P f.type).bind fun z => if z = 0 then none else some f.offset
  | _ => none
/-- offset; none: one cell, some n: n cells -/
def partOf (s i : Nat) : Option (Nat × Option Nat) := match P.underlying s with
  | some (.struct fs) => (fs[i]?).bind fun f => (aggOf P f.type).map fun z => (f.offset, z)
  | _ => none
/-- The element's type, cells, bytes. -/
def slOf (t : TypeId) : Option (TypeId × Nat × Nat) := match P.underlying t with
  | some (.slice e) => (P.info? e).map fun i => (e, i.size, i.bytes)
  | _ => none
def arrOf (t : TypeId) : Option (TypeId × Nat × Nat) := match P.underlying t with
  | some (.array n e) => (P.info? e).map fun i => (e, n, i.size)
  | _ => none
def placesOf (t : TypeId) : Option (List (Nat × Nat)) := match P.underlying t with
  | some (.struct fs) => fs.toList.mapM fun f => (szOf P f.type).map fun z => (f.offset, z)
  | _ => none
end facts

section
variable {P : Program}
theorem run_isAgg {t : TypeId} {x : Option Nat} (h : aggOf P t = some x) (w : World) : (isAgg t).run P w = .ok x.isSome w := by
  unfold aggOf at h
  unfold isAgg
  cases hu : P.underlying t with
  | none => rw [hu] at h; cases h
  | some d =>
    rw [hu] at h
    simp only [Sem.run_bind, run_underlying hu, Result.andThen_ok]
    cases d <;> simp at h <;> first | (subst h; rfl) | (obtain ⟨z, _, rfl⟩ := h; rfl)
theorem agg_size {t : TypeId} {n : Nat} (h : aggOf P t = some (some n)) : szOf P t = some n := by
  unfold aggOf at h
  split at h <;> simp_all
theorem run_typeInfo {t : TypeId} {i : TypeInfo} (h : P.info? t = some i) (w : World) : (typeInfo t).run P w = .ok i w := by
  simp [typeInfo, h]
theorem run_sizeOf {t : TypeId} {n : Nat} (h : szOf P t = some n) (w : World) : (sizeOf t).run P w = .ok n w := by
  unfold szOf at h
  cases hi : P.info? t with
  | none => rw [hi] at h; cases h
  | some i => rw [hi] at h; simp at h; simp [sizeOf, run_typeInfo hi, h]
theorem run_zeroValue {t : TypeId} {v : Value} (h : (P.info? t).bind (·.zero) = some v) (w : World) : (zeroValue t).run P w = .ok v w := by
  cases hi : P.info? t with
  | none => rw [hi] at h; cases h
  | some i => rw [hi] at h; simp at h; simp [zeroValue, run_typeInfo hi, h]

/-- A part of a list of cells, written out. -/
inductive Ext : List Value → Nat → Nat → List Value → Prop
  | done {l : List Value} {o n : Nat} : Nat.beq n 0 = true → Ext l o n []
  | here {a : Value} {l vs : List Value} {o n : Nat} : Nat.beq o 0 = true → Nat.beq n 0 = false → Ext l 0 (Nat.pred n) vs → Ext (a :: l) o n (a :: vs)
  | there {a : Value} {l vs : List Value} {o n : Nat} : Nat.beq o 0 = false → Ext l (Nat.pred o) n vs → Ext (a :: l) o n vs
theorem Ext.ok {l vs : List Value} {o n : Nat} (h : Ext l o n vs) : (l.drop o).take n = vs ∧ (o + n ≤ l.length ∨ n = 0) := by
  induction h with
  | done h => have := Nat.eq_of_beq_eq_true h; subst this; simp
  | @here a l vs o n h h' _ ih =>
    have := Nat.eq_of_beq_eq_true h; subst this
    have hn := ne_of_beq_no h'
    obtain ⟨m, rfl⟩ : ∃ m, n = m + 1 := ⟨n - 1, by omega⟩
    simp only [Nat.pred_succ, List.drop_zero] at ih
    refine ⟨by simp [ih.1], .inl ?_⟩
    simp only [List.length_cons]
    rcases ih.2 with h0 | h0 <;> omega
  | @there a l vs o n h _ ih =>
    have hn := ne_of_beq_no h
    obtain ⟨m, rfl⟩ : ∃ m, o = m + 1 := ⟨o - 1, by omega⟩
    simp only [Nat.pred_succ] at ih
    refine ⟨by simp [ih.1], ?_⟩
    simp only [List.length_cons]
    rcases ih.2 with h0 | h0
    · left; omega
    · exact .inr h0

/-! ### Loads -/
def isCl (w : World) (b : Nat) (l : List Value) : Prop := ∃ t : TypeId × (Nat × Nat), w.heap[b]? = some (.cells l.toArray t.1 t.2)
theorem isCl.cell {w : World} {b : Nat} {l : List Value} (h : isCl w b l) (o : Nat) : w.cell? ⟨b, o, none⟩ = l[o]? := by
  obtain ⟨t, h⟩ := h; simp [World.cell?, h]
theorem add_none (b o n : Nat) : Addr.add ⟨b, o, none⟩ n = ⟨b, o + n, none⟩ := by unfold Addr.add; split <;> simp_all

theorem run_load_cl {w : World} {b o : Nat} {l : List Value} {v : Value} (h : isCl w b l) (hv : l[o]? = some v) : (load ⟨b, o, none⟩).run P w = .ok v w := by
  simp [h.cell, hv]
theorem run_loadCellsFrom {w : World} {b o : Nat} {l : List Value} (h : isCl w b l) : ∀ (n i : Nat) (acc : Array Value), o + i + n ≤ l.length →
    (loadCellsFrom ⟨b, o, none⟩ i n acc).run P w = .ok (acc ++ ((l.drop (o + i)).take n).toArray) w
  | 0, i, acc, _ => by simp [loadCellsFrom]
  | n + 1, i, acc, hle => by
    have hlt : o + i < l.length := by omega
    unfold loadCellsFrom
    rw [add_none]
    simp only [Sem.run_bind, run_load_cl h (List.getElem?_eq_getElem hlt), Result.andThen_ok]
    rw [run_loadCellsFrom h n (i + 1) (acc.push l[o + i]) (by omega)]
    congr 1
    rw [List.drop_eq_getElem_cons hlt, List.take_succ_cons]
    apply Array.ext'
    simp [Nat.add_assoc]
theorem run_loadCells {w : World} {b o n : Nat} {l : List Value} (h : isCl w b l) (hle : o + n ≤ l.length) : (loadCells ⟨b, o, none⟩ n).run P w = .ok ((l.drop o).take n).toArray w := by
  unfold loadCells; rw [run_loadCellsFrom h n 0 #[] (by omega)]; simp
theorem run_loadVar1 {t : TypeId} {w : World} {b o : Nat} {l : List Value} {v : Value} (ht : aggOf P t = some none) (h : isCl w b l) (hv : l[o]? = some v) : (loadVar t ⟨b, o, none⟩).run P w = .ok v w := by
  unfold loadVar; simp only [Sem.run_bind, run_isAgg ht, Result.andThen_ok]; exact run_load_cl h hv
theorem run_loadVarN {t : TypeId} {w : World} {b o n : Nat} {l : List Value} (ht : aggOf P t = some (some n)) (h : isCl w b l) (hle : o + n ≤ l.length) : (loadVar t ⟨b, o, none⟩).run P w = .ok (.agg ((l.drop o).take n).toArray) w := by
  unfold loadVar; simp [run_isAgg ht, run_sizeOf (agg_size ht), run_loadCells h hle]
theorem run_loadVarN' {t : TypeId} {w : World} {b o n : Nat} {l : List Value} (ht : aggOf P t = some (some n)) (h : isCl w b l) (hle : o + n ≤ l.length ∨ n = 0) : (loadVar t ⟨b, o, none⟩).run P w = .ok (.agg ((l.drop o).take n).toArray) w := by
  rcases hle with hle | rfl
  · exact run_loadVarN ht h hle
  · unfold loadVar; simp [run_isAgg ht, run_sizeOf (agg_size ht), loadCells, loadCellsFrom]
end

section
variable {P : Program} {r : Option Nat} {g : World} {Γ : Env} {L : List HP} {dst : Option Tmp} {t : TypeId} {pos : String} {aft : Array Edge} {gd : Option (Nat × Bool)}

theorem Sat.isCl {w : World} {M : List HP} {b : Nat} {u : TypeId} {l : List Value} (h : Sat g L w) (hp : Pick L (cl b u l) M) : SL.isCl w b l := ⟨(u, (0, 0)), h.get hp⟩

/-- An operation that needs no memory: its run is 'pure'. -/
theorem EO.of {o : Oper} {v : Value} (hop : ∀ c, o.op ≠ .defer c) (h : ∀ ρ : Operand → Value, (∀ x u, x ∈ o.op.operands → ev Γ x = some u → ρ x = u) → ∀ w, Sat g L w → (execOp ρ o).run P w = .ok (.value v) w) : EO P g o Γ L v :=
  fun ρ w hρ hw => ⟨h ρ hρ w hw, hop⟩

theorem e_move {x : Operand} {v : Value} (h : ev Γ x = some v := by rfl) : EO P g ⟨dst, .move x, t, pos, aft, gd⟩ Γ L v :=
  .of (by simp) fun ρ hρ w _ => by simp [execOp, hρ x v (by simp [Op.operands]) h]
theorem e_assign {x : Operand} {v : Value} (h : ev Γ x = some v := by rfl) : EO P g ⟨dst, .assign x, t, pos, aft, gd⟩ Γ L v :=
  .of (by simp) fun ρ hρ w _ => by simp [execOp, hρ x v (by simp [Op.operands]) h]
theorem e_pick_t {c x y : Operand} {v : Value} (hc : ev Γ c = some (.bool true) := by rfl) (h : ev Γ x = some v := by rfl) : EO P g ⟨dst, .pick c x y, t, pos, aft, gd⟩ Γ L v :=
  .of (by simp) fun ρ hρ w _ => by simp [execOp, hρ c _ (by simp [Op.operands]) hc, hρ x v (by simp [Op.operands]) h, asBool]
theorem e_pick_f {c x y : Operand} {v : Value} (hc : ev Γ c = some (.bool false) := by rfl) (h : ev Γ y = some v := by rfl) : EO P g ⟨dst, .pick c x y, t, pos, aft, gd⟩ Γ L v :=
  .of (by simp) fun ρ hρ w _ => by simp [execOp, hρ c _ (by simp [Op.operands]) hc, hρ y v (by simp [Op.operands]) h, asBool]
theorem e_extract {x : Operand} {vs : List Value} {i : Nat} {v : Value} (hx : ev Γ x = some (.tuple vs.toArray) := by rfl) (h : vs[i]? = some v := by rfl) : EO P g ⟨dst, .extract x i, t, pos, aft, gd⟩ Γ L v :=
  .of (by simp) fun ρ hρ w _ => by simp [execOp, hρ x _ (by simp [Op.operands]) hx, Instr.extract, h]

def evs (Γ : Env) : List Operand → Option (List Value)
  | [] => some []
  | x :: l => match ev Γ x, evs Γ l with
    | some v, some m => some (v :: m)
    | _, _ => none
theorem evs_map {l : List Operand} {vs : List Value} {ρ : Operand → Value} (h : evs Γ l = some vs) (hρ : ∀ x u, x ∈ l → ev Γ x = some u → ρ x = u) : l.map ρ = vs := by
  induction l generalizing vs with
  | nil => simp [evs] at h; simp [h]
  | cons x l ih =>
    simp only [evs] at h
    cases hx : ev Γ x with
    | none => rw [hx] at h; simp at h
    | some v =>
      cases hl : evs Γ l with
      | none => rw [hx, hl] at h; simp at h
      | some m => rw [hx, hl] at h; simp at h; subst h; simp [hρ x v (by simp) hx, ih hl (fun y u hy => hρ y u (by simp [hy]))]
theorem evs_mapA {l : List Operand} {vs : List Value} {ρ : Operand → Value} (h : evs Γ l = some vs) (hρ : ∀ x u, x ∈ l → ev Γ x = some u → ρ x = u) : l.toArray.map ρ = vs.toArray := by
  simp [evs_map h hρ]

theorem e_makeFunc {fn : Fn} {fs cs : List Operand} {vs us : List Value} (hf : evs Γ fs = some vs := by rfl) (hc : evs Γ cs = some us := by rfl) : EO P g ⟨dst, .makeFunc fn fs.toArray cs.toArray, t, pos, aft, gd⟩ Γ L (.func fn vs.toArray us.toArray) :=
  .of (by simp) fun ρ hρ w _ => by
    simp only [execOp, Sem.run_bind, Instr.makeFunc, evs_mapA hf (fun x u hx => hρ x u (by simp [Op.operands, hx])), evs_mapA hc (fun x u hx => hρ x u (by simp [Op.operands, hx]))]
    rfl

/-! integers -/
theorem e_bin {op : BinOp} {xt yt : TypeId} {x y : Operand} {u v z : Value} (hx : ev Γ x = some u) (hy : ev Γ y = some v) (h : ∀ w, (do eqGuard op xt x y u v; binOp op xt u v : Sem Value).run P w = .ok z w) : EO P g ⟨dst, .binOp op xt x y yt, t, pos, aft, gd⟩ Γ L z :=
  .of (by simp) fun ρ hρ w _ => by
    have h1 := hρ x u (by simp [Op.operands]) hx
    have h2 := hρ y v (by simp [Op.operands]) hy
    show ((do pure (Next.value (← (do eqGuard op xt x y (ρ x) (ρ y); binOp op xt (ρ x) (ρ y) : Sem Value))) : Sem Next)).run P w = _
    rw [h1, h2, Sem.run_bind, h w]; rfl
section ints
variable {xt yt : TypeId} {x y : Operand} {k : IntKind} {a b c : Int}
theorem e_add (hx : ev Γ x = some (.int k a)) (hy : ev Γ y = some (.int k b)) (h : k.wrap (a + b) = c) : EO P g ⟨dst, .binOp .add xt x y yt, t, pos, aft, gd⟩ Γ L (.int k c) := e_bin hx hy fun w => by simp [go_sem, Op.intArith, h]
theorem e_sub (hx : ev Γ x = some (.int k a)) (hy : ev Γ y = some (.int k b)) (h : k.wrap (a - b) = c) : EO P g ⟨dst, .binOp .sub xt x y yt, t, pos, aft, gd⟩ Γ L (.int k c) := e_bin hx hy fun w => by simp [go_sem, Op.intArith, h]
theorem e_mul (hx : ev Γ x = some (.int k a)) (hy : ev Γ y = some (.int k b)) (h : k.wrap (a * b) = c) : EO P g ⟨dst, .binOp .mul xt x y yt, t, pos, aft, gd⟩ Γ L (.int k c) := e_bin hx hy fun w => by simp [go_sem, Op.intArith, h]
theorem e_quo (hx : ev Γ x = some (.int k a)) (hy : ev Γ y = some (.int k b)) (h0 : b ≠ 0) (h : k.wrap (a.tdiv b) = c) : EO P g ⟨dst, .binOp .quo xt x y yt, t, pos, aft, gd⟩ Γ L (.int k c) := e_bin hx hy fun w => by simp [go_sem, Op.intDiv, h, h0]
theorem e_rem (hx : ev Γ x = some (.int k a)) (hy : ev Γ y = some (.int k b)) (h0 : b ≠ 0) (h : a.tmod b = c) : EO P g ⟨dst, .binOp .rem xt x y yt, t, pos, aft, gd⟩ Γ L (.int k c) := e_bin hx hy fun w => by simp [go_sem, Op.intDiv, h, h0]
theorem e_bits {op : BinOp} (hop : op = .and ∨ op = .or ∨ op = .xor ∨ op = .andNot) (hx : ev Γ x = some (.int k a)) (hy : ev Γ y = some (.int k b)) (h : bits op k a b = c) : EO P g ⟨dst, .binOp op xt x y yt, t, pos, aft, gd⟩ Γ L (.int k c) :=
  e_bin hx hy fun w => by rcases hop with rfl | rfl | rfl | rfl <;> simp [go_sem, h]
theorem e_shl {k' : IntKind} (hx : ev Γ x = some (.int k a)) (hy : ev Γ y = some (.int k' b)) (h0 : 0 ≤ b) (h1 : b ≤ k.bits) (h : k.wrap (a * 2 ^ b.toNat) = c) : EO P g ⟨dst, .binOp .shl xt x y yt, t, pos, aft, gd⟩ Γ L (.int k c) := e_bin hx hy fun w => by
  simp [go_sem, shift_shl k k' a b h0 h1, h]
theorem e_shr {k' : IntKind} (hx : ev Γ x = some (.int k a)) (hy : ev Γ y = some (.int k' b)) (h0 : 0 ≤ b) (h1 : b ≤ k.bits) (h : a / 2 ^ b.toNat = c) : EO P g ⟨dst, .binOp .shr xt x y yt, t, pos, aft, gd⟩ Γ L (.int k c) := e_bin hx hy fun w => by
  simp [go_sem, shift_shr k k' a b h0 h1, h]
theorem e_eql (hx : ev Γ x = some (.int k a) := by rfl) (hy : ev Γ y = some (.int k b) := by rfl) : EO P g ⟨dst, .binOp .eql xt x y yt, t, pos, aft, gd⟩ Γ L (.bool (a == b)) := e_bin hx hy fun w => by simp [go_sem]
theorem e_neq (hx : ev Γ x = some (.int k a) := by rfl) (hy : ev Γ y = some (.int k b) := by rfl) : EO P g ⟨dst, .binOp .neq xt x y yt, t, pos, aft, gd⟩ Γ L (.bool (a != b)) := e_bin hx hy fun w => by simp [go_sem]
theorem e_lss (hx : ev Γ x = some (.int k a) := by rfl) (hy : ev Γ y = some (.int k b) := by rfl) : EO P g ⟨dst, .binOp .lss xt x y yt, t, pos, aft, gd⟩ Γ L (.bool (decide (a < b))) := e_bin hx hy fun w => by simp [go_sem]
theorem e_leq (hx : ev Γ x = some (.int k a) := by rfl) (hy : ev Γ y = some (.int k b) := by rfl) : EO P g ⟨dst, .binOp .leq xt x y yt, t, pos, aft, gd⟩ Γ L (.bool (decide (a ≤ b))) := e_bin hx hy fun w => by simp [go_sem]
theorem e_gtr (hx : ev Γ x = some (.int k a) := by rfl) (hy : ev Γ y = some (.int k b) := by rfl) : EO P g ⟨dst, .binOp .gtr xt x y yt, t, pos, aft, gd⟩ Γ L (.bool (decide (a > b))) := e_bin hx hy fun w => by simp [go_sem]
theorem e_geq (hx : ev Γ x = some (.int k a) := by rfl) (hy : ev Γ y = some (.int k b) := by rfl) : EO P g ⟨dst, .binOp .geq xt x y yt, t, pos, aft, gd⟩ Γ L (.bool (decide (a ≥ b))) := e_bin hx hy fun w => by simp [go_sem]
theorem run_eqB {xt : TypeId} {p q : Bool} (ht : P.underlying xt = some .bool) (w : World) : (Op.equal xt (.bool p) (.bool q)).run P w = .ok (p == q) w := by
  unfold Op.equal; rw [show Op.maxDepth = 9999 + 1 from rfl]; unfold Op.equalIn; simp only [Sem.run_bind, run_underlying ht, Result.andThen_ok]; rfl
theorem e_eqlB {p q : Bool} (ht : P.underlying xt = some .bool) (hx : ev Γ x = some (.bool p) := by rfl) (hy : ev Γ y = some (.bool q) := by rfl) : EO P g ⟨dst, .binOp .eql xt x y yt, t, pos, aft, gd⟩ Γ L (.bool (p == q)) := e_bin hx hy fun w => by
  rw [eqGuard_at_bool]
  show (do pure (Value.bool (← Op.equal xt (.bool p) (.bool q))) : Sem Value).run P w = _
  rw [Sem.run_bind, run_eqB ht]; rfl
theorem e_neqB {p q : Bool} (ht : P.underlying xt = some .bool) (hx : ev Γ x = some (.bool p) := by rfl) (hy : ev Γ y = some (.bool q) := by rfl) : EO P g ⟨dst, .binOp .neq xt x y yt, t, pos, aft, gd⟩ Γ L (.bool (p != q)) := e_bin hx hy fun w => by
  rw [eqGuard_at_bool]
  show (do pure (Value.bool (!(← Op.equal xt (.bool p) (.bool q)))) : Sem Value).run P w = _
  rw [Sem.run_bind, run_eqB ht]; rfl
end ints

theorem e_not {x : Operand} {ot : TypeId} {b : Bool} (hx : ev Γ x = some (.bool b) := by rfl) : EO P g ⟨dst, .unOp .not ot x, t, pos, aft, gd⟩ Γ L (.bool !b) :=
  .of (by simp) fun ρ hρ w _ => by simp [execOp, hρ x _ (by simp [Op.operands]) hx, Op.unary]
theorem e_conv {x : Operand} {s d : TypeId} {k j : IntKind} {a c : Int} (hs : (P.underlying s).isSome = true) (hd : P.underlying d = some (.int k)) (hx : ev Γ x = some (.int j a)) (h : k.wrap a = c) : EO P g ⟨dst, .convert s d x, t, pos, aft, gd⟩ Γ L (.int k c) :=
  .of (by simp) fun ρ hρ w _ => by
    obtain ⟨y, hy⟩ := Option.isSome_iff_exists.1 hs
    simp only [execOp, hρ x _ (by simp [Op.operands]) hx, convert, Sem.run_bind, run_underlying hy, run_underlying hd, Result.andThen_ok]
    cases y <;> simp [Conv.intToInt, h]

/-! places -/
theorem e_nil {x : Operand} {a : Addr} (hx : ev Γ x = some (.pointer (some a)) := by rfl) : EO P g ⟨dst, .nilCheck x, t, pos, aft, gd⟩ Γ L (.pointer (some a)) :=
  .of (by simp) fun ρ hρ w _ => by simp [execOp, hρ x _ (by simp [Op.operands]) hx]
theorem e_fa {x : Operand} {s i b o f : Nat} (hf : fldOf P s i = some f) (hx : ev Γ x = some (.pointer (some ⟨b, o, none⟩)) := by rfl) : EO P g ⟨dst, .fieldAddr s x i, t, pos, aft, gd⟩ Γ L (.pointer (some ⟨b, o + f, none⟩)) :=
  .of (by simp) fun ρ hρ w _ => by
    unfold fldOf at hf
    split at hf
    case h_2 => cases hf
    case h_1 fs hu =>
      simp only [Option.bind_eq_some_iff] at hf
      obtain ⟨fd, hfd, z, hz, hf⟩ := hf
      split at hf
      · cases hf
      rename_i hne
      cases hf
      simp [execOp, hρ x _ (by simp [Op.operands]) hx, Instr.fieldAt, run_underlying hu, hfd, Instr.sureAddr, fieldPlace, run_sizeOf hz, hne, add_none]
theorem e_field1 {x : Operand} {s i o : Nat} {cs : List Value} {v : Value} (hf : partOf P s i = some (o, none)) (hx : ev Γ x = some (.agg cs.toArray) := by rfl) (hv : cs[o]? = some v := by rfl) : EO P g ⟨dst, .field s x i, t, pos, aft, gd⟩ Γ L v :=
  .of (by simp) fun ρ hρ w _ => by
    unfold partOf at hf
    split at hf
    case h_2 => cases hf
    case h_1 fs hu =>
      simp only [Option.bind_eq_some_iff, Option.map_eq_some_iff] at hf
      obtain ⟨fd, hfd, z, hz, hf⟩ := hf
      cases hf
      simp [execOp, hρ x _ (by simp [Op.operands]) hx, Instr.field, run_underlying hu, hfd, asAgg, part, run_isAgg hz, hv]
theorem e_fieldN {x : Operand} {s i o n : Nat} {cs vs : List Value} (hf : partOf P s i = some (o, some n)) (hx : ev Γ x = some (.agg cs.toArray) := by rfl) (hv : Ext cs o n vs := by repeat first | exact Ext.done rfl | apply Ext.here rfl rfl | apply Ext.there rfl) : EO P g ⟨dst, .field s x i, t, pos, aft, gd⟩ Γ L (.agg vs.toArray) :=
  .of (by simp) fun ρ hρ w _ => by
    unfold partOf at hf
    split at hf
    case h_2 => cases hf
    case h_1 fs hu =>
      simp only [Option.bind_eq_some_iff, Option.map_eq_some_iff] at hf
      obtain ⟨fd, hfd, z, hz, hf⟩ := hf
      cases hf
      obtain ⟨hv, _⟩ := hv.ok
      subst hv
      simp [execOp, hρ x _ (by simp [Op.operands]) hx, Instr.field, run_underlying hu, hfd, asAgg, part, run_isAgg hz, run_sizeOf (agg_size hz)]
theorem e_ia {x i : Operand} {s b o e z y n c j : Nat} {k : IntKind} (hs : slOf P s = some (e, z, y)) (hj : j < n) (hx : ev Γ x = some (.slice (some ⟨b, o, none⟩) n c) := by rfl) (hi : ev Γ i = some (.int k j) := by rfl) :
    EO P g ⟨dst, .indexAddr s x i, t, pos, aft, gd⟩ Γ L (.pointer (some ⟨b, o + j * z, none⟩)) :=
  .of (by simp) fun ρ hρ w _ => by
    unfold slOf at hs
    split at hs
    case h_2 => cases hs
    case h_1 hu =>
      simp only [Option.map_eq_some_iff] at hs
      obtain ⟨inf, hinf, hs⟩ := hs
      cases hs
      have hz : szOf P e = some inf.size := by simp [szOf, hinf]
      simp [execOp, hρ x _ (by simp [Op.operands]) hx, hρ i _ (by simp [Op.operands]) hi, Instr.indexAt, asIntOf, run_underlying hu, run_sizeOf hz, hj, add_none]
theorem e_iaA {x i : Operand} {s b o e n z j : Nat} {k : IntKind} (hs : arrOf P s = some (e, n, z)) (hj : j < n) (hx : ev Γ x = some (.pointer (some ⟨b, o, none⟩)) := by rfl) (hi : ev Γ i = some (.int k j) := by rfl) :
    EO P g ⟨dst, .indexAddr s x i, t, pos, aft, gd⟩ Γ L (.pointer (some ⟨b, o + j * z, none⟩)) :=
  .of (by simp) fun ρ hρ w _ => by
    unfold arrOf at hs
    split at hs
    case h_2 => cases hs
    case h_1 hu =>
      simp only [Option.map_eq_some_iff] at hs
      obtain ⟨inf, hinf, hs⟩ := hs
      cases hs
      have hz : szOf P e = some inf.size := by simp [szOf, hinf]
      simp [execOp, hρ x _ (by simp [Op.operands]) hx, hρ i _ (by simp [Op.operands]) hi, Instr.indexAt, Instr.sureAddr, asIntOf, run_underlying hu, run_sizeOf hz, hj, add_none]
theorem e_load {x : Operand} {u b o : Nat} {bt : TypeId} {l : List Value} {M : List HP} {v : Value} (ht : aggOf P u = some none) (hx : ev Γ x = some (.pointer (some ⟨b, o, none⟩)) := by rfl) (hp : Pick L (cl b bt l) M := by repeat first | exact .z | apply Pick.s) (hv : l[o]? = some v := by rfl) :
    EO P g ⟨dst, .load u x, t, pos, aft, gd⟩ Γ L v :=
  .of (by simp) fun ρ hρ w hw => by
    simp [execOp, hρ x _ (by simp [Op.operands]) hx, Instr.loadAt, Instr.sureAddr, run_loadVar1 ht (hw.isCl hp) hv]
theorem e_loadN {x : Operand} {u b o n : Nat} {bt : TypeId} {l vs : List Value} {M : List HP} (ht : aggOf P u = some (some n)) (hx : ev Γ x = some (.pointer (some ⟨b, o, none⟩)) := by rfl) (hp : Pick L (cl b bt l) M := by repeat first | exact .z | apply Pick.s) (hv : Ext l o n vs := by repeat first | exact Ext.done rfl | apply Ext.here rfl rfl | apply Ext.there rfl) :
    EO P g ⟨dst, .load u x, t, pos, aft, gd⟩ Γ L (.agg vs.toArray) :=
  .of (by simp) fun ρ hρ w hw => by
    obtain ⟨hv, hle⟩ := hv.ok
    subst hv
    simp [execOp, hρ x _ (by simp [Op.operands]) hx, Instr.loadAt, Instr.sureAddr, run_loadVarN' ht (hw.isCl hp) hle]

theorem rv_cell {p b o : Nat} {u bt : TypeId} {l : List Value} {M : List HP} {v : Value} {rs : List ResultVar} {vs : List Value} (ht : aggOf P u = some none) (h : RV P g Γ L rs vs) (hx : look Γ.l p = some (.pointer (some ⟨b, o, none⟩)) := by rfl)
    (hp : Pick L (cl b bt l) M := by repeat first | exact .z | apply Pick.s) (hv : l[o]? = some v := by rfl) : RV P g Γ L (.cell p u :: rs) (v :: vs) :=
  ⟨v, vs, rfl, fun a w ha hw => by simp [readRV, ha.at_ p _ hx, asAddr, run_loadVar1 ht (hw.isCl hp) hv], h⟩
theorem rv_cellN {p b o n : Nat} {u bt : TypeId} {l us : List Value} {M : List HP} {rs : List ResultVar} {vs : List Value} (ht : aggOf P u = some (some n)) (h : RV P g Γ L rs vs) (hx : look Γ.l p = some (.pointer (some ⟨b, o, none⟩)) := by rfl)
    (hp : Pick L (cl b bt l) M := by repeat first | exact .z | apply Pick.s) (hv : Ext l o n us := by repeat first | exact Ext.done rfl | apply Ext.here rfl rfl | apply Ext.there rfl) : RV P g Γ L (.cell p u :: rs) (.agg us.toArray :: vs) :=
  ⟨.agg us.toArray, vs, rfl, fun a w ha hw => by obtain ⟨hv, hle⟩ := hv.ok; subst hv; simp [readRV, ha.at_ p _ hx, asAddr, run_loadVarN' ht (hw.isCl hp) hle], h⟩

/-! build -/
def evps (Γ : Env) : List (Nat × Operand) → Option (List (Nat × Value))
  | [] => some []
  | (i, x) :: l => match ev Γ x, evps Γ l with
    | some v, some m => some ((i, v) :: m)
    | _, _ => none
theorem evps_map {l : List (Nat × Operand)} {vs : List (Nat × Value)} {ρ : Operand → Value} (h : evps Γ l = some vs) (hρ : ∀ x u, x ∈ l.map (·.2) → ev Γ x = some u → ρ x = u) : l.map (fun (i, x) => (i, ρ x)) = vs := by
  induction l generalizing vs with
  | nil => simp [evps] at h; simp [h]
  | cons y l ih =>
    obtain ⟨i, x⟩ := y
    simp only [evps] at h
    cases hx : ev Γ x with
    | none => rw [hx] at h; simp at h
    | some v =>
      cases hl : evps Γ l with
      | none => rw [hx, hl] at h; simp at h
      | some m => rw [hx, hl] at h; simp at h; subst h; simp [hρ x v (by simp) hx, ih hl (fun y u hy => hρ y u (by simp at hy ⊢; exact .inr hy))]
theorem run_places : ∀ (fs : List Field) (ps : List (Nat × Nat)), (fs.mapM fun f => (szOf P f.type).map fun z => (f.offset, z)) = some ps → ∀ w, ((fs.mapM fun f => do pure (f.offset, ← sizeOf f.type) : Sem _)).run P w = .ok ps w
  | [], ps, h, w => by simp at h; subst h; rfl
  | f :: fs, ps, h, w => by
    simp only [List.mapM_cons] at h ⊢
    cases hz : szOf P f.type with
    | none => rw [hz] at h; cases h
    | some z =>
      rw [hz] at h
      cases hr : (fs.mapM fun f => (szOf P f.type).map fun z => (f.offset, z)) with
      | none => rw [hr] at h; cases h
      | some qs =>
        rw [hr] at h; cases h
        simp only [Sem.run_bind, run_sizeOf hz, Result.andThen_ok, Sem.run_pure, run_places fs qs hr w]
/-- The cells of what is built, written out (a hint alone: what it comes to is checked). -/
inductive Tm (Γ : Env) : List Value → Prop
  | n : Tm Γ []
  | z (v : Value) {l : List Value} : Tm Γ l → Tm Γ (v :: l)
  | o (x : Operand) {v : Value} {l : List Value} : ev Γ x = some v → Tm Γ l → Tm Γ (v :: l)
  | a1 (x : Operand) {a : Value} {l : List Value} : ev Γ x = some (.agg #[a]) → Tm Γ l → Tm Γ (a :: l)
  | a2 (x : Operand) {a b : Value} {l : List Value} : ev Γ x = some (.agg #[a, b]) → Tm Γ l → Tm Γ (a :: b :: l)
  | a3 (x : Operand) {a b c : Value} {l : List Value} : ev Γ x = some (.agg #[a, b, c]) → Tm Γ l → Tm Γ (a :: b :: c :: l)
  | a4 (x : Operand) {a b c d : Value} {l : List Value} : ev Γ x = some (.agg #[a, b, c, d]) → Tm Γ l → Tm Γ (a :: b :: c :: d :: l)
theorem e_build {s : TypeId} {ps : List (Nat × Operand)} {zs : List Value} {pl : List (Nat × Nat)} {vs : List (Nat × Value)} {cs : List Value} (hz : zeroOf P s = some zs) (hpl : placesOf P s = some pl) (_ : Tm Γ cs) (hv : evps Γ ps = some vs := by rfl) (hc : Instr.fill (pl[·]?) zs.toArray vs = some cs.toArray := by rfl) :
    EO P g ⟨dst, .build s ps.toArray, t, pos, aft, gd⟩ Γ L (.agg cs.toArray) :=
  .of (by simp) fun ρ hρ w _ => by
    have h1 : (ps.toArray.map fun (i, x) => (i, ρ x)) = vs.toArray := by
      rw [← evps_map hv (fun x u hx => hρ x u (by simpa [Op.operands] using hx))]; simp
    unfold zeroOf at hz
    cases hi : (P.info? s).bind (·.zero) with
    | none => rw [hi] at hz; cases hz
    | some zv =>
      rw [hi] at hz
      simp at hz
      have hz' : zv.cells = zs.toArray := by rw [← hz]
      unfold placesOf at hpl
      split at hpl
      case h_2 => cases hpl
      case h_1 fs hu =>
        have h2 : ∀ w, ((fs.mapM fun f => do pure (f.offset, ← sizeOf f.type) : Sem _)).run P w = .ok pl.toArray w := fun w => by
          rw [Array.mapM_eq_mapM_toList, Sem.run_map, run_places fs.toList pl hpl w]; rfl
        have h3 : (fun x : Nat => pl.toArray[x]?) = (fun x : Nat => pl[x]?) := by funext x; simp
        simp only [execOp, Sem.run_bind, Instr.build, run_zeroValue hi, Result.andThen_ok, run_underlying hu, h2, h1, hz', h3, hc]
        rfl

end
end Go.SL

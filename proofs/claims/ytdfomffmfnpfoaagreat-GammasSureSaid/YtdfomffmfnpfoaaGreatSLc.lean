/- The steps of the walk: strings, slices, new memory, stores. -/
import Derived.Test.YtdfomffmfnpfoaaGreatSLb
set_option linter.unusedSimpArgs false
set_option linter.unusedVariables false
namespace Go.SL
open Go

/-! ### Strings -/
def sEq (a b : ByteArray) : Bool := a.toList == b.toList
def sLt (a b : ByteArray) : Bool := Op.bytesLess a.toList b.toList

section
variable {P : Program} {r : Option Nat} {g : World} {Γ : Env} {L : List HP} {dst : Option Tmp} {t : TypeId} {pos : String} {aft : Array Edge} {gd : Option (Nat × Bool)}
section
variable {xt yt : TypeId} {x y : Operand} {a b : ByteArray}
theorem e_seq (hx : ev Γ x = some (.string a) := by rfl) (hy : ev Γ y = some (.string b) := by rfl) : EO P g ⟨dst, .binOp .eql xt x y yt, t, pos, aft, gd⟩ Γ L (.bool (sEq a b)) := e_bin hx hy fun w => by rw [eqGuard_at_string]; rfl
theorem e_sne (hx : ev Γ x = some (.string a) := by rfl) (hy : ev Γ y = some (.string b) := by rfl) : EO P g ⟨dst, .binOp .neq xt x y yt, t, pos, aft, gd⟩ Γ L (.bool (!sEq a b)) := e_bin hx hy fun w => by rw [eqGuard_at_string]; rfl
theorem e_slt (hx : ev Γ x = some (.string a) := by rfl) (hy : ev Γ y = some (.string b) := by rfl) : EO P g ⟨dst, .binOp .lss xt x y yt, t, pos, aft, gd⟩ Γ L (.bool (sLt a b)) := e_bin hx hy fun w => by rw [eqGuard_at_string]; rfl
theorem e_sle (hx : ev Γ x = some (.string a) := by rfl) (hy : ev Γ y = some (.string b) := by rfl) : EO P g ⟨dst, .binOp .leq xt x y yt, t, pos, aft, gd⟩ Γ L (.bool (sLt a b || sEq a b)) := e_bin hx hy fun w => by rw [eqGuard_at_string]; rfl
theorem e_sgt (hx : ev Γ x = some (.string a) := by rfl) (hy : ev Γ y = some (.string b) := by rfl) : EO P g ⟨dst, .binOp .gtr xt x y yt, t, pos, aft, gd⟩ Γ L (.bool (!(sLt a b || sEq a b))) := e_bin hx hy fun w => by rw [eqGuard_at_string]; rfl
theorem e_sge (hx : ev Γ x = some (.string a) := by rfl) (hy : ev Γ y = some (.string b) := by rfl) : EO P g ⟨dst, .binOp .geq xt x y yt, t, pos, aft, gd⟩ Γ L (.bool (!sLt a b)) := e_bin hx hy fun w => by rw [eqGuard_at_string]; rfl
theorem e_sadd (hx : ev Γ x = some (.string a)) (hy : ev Γ y = some (.string b)) (h : a.size + b.size < 9223372036854775808) : EO P g ⟨dst, .binOp .add xt x y yt, t, pos, aft, gd⟩ Γ L (.string (a ++ b)) := e_bin hx hy fun w => by
  rw [eqGuard_at_string]
  show (Op.stringOp .add a b).run P w = _
  unfold Op.stringOp
  simp only [IntKind.max_i64]
  rw [if_neg (by omega)]; rfl
end

/-! ### Built-ins that only compute -/
theorem e_call_b {b : Builtin} {args : List Operand} {ts : Array TypeId} {vs : List Value} {v : Value} (hv : evs Γ args = some vs)
    (h : ∀ w cs, Sat g L w → (builtin b ts t cs vs.toArray).run P w = .ok (.value v) w) : EO P g ⟨dst, .call ⟨.builtin b, args.toArray, ts⟩, t, pos, aft, gd⟩ Γ L v :=
  .of (by simp) fun ρ hρ w hw => by
    have h1 : args.toArray.map ρ = vs.toArray := evs_mapA hv (fun x u hx => hρ x u (by simp [Op.operands, Call.operands, hx]))
    simp only [execOp, resolve, h1]
    exact h w _ hw
theorem e_len_str {x : Operand} {T : TypeId} {s : ByteArray} (ht : P.underlying T = some .string) (hx : ev Γ x = some (.string s) := by rfl) : EO P g ⟨dst, .call ⟨.builtin .len, #[x], #[T]⟩, t, pos, aft, gd⟩ Γ L (.int .i64 s.size) :=
  e_call_b (args := [x]) (vs := [.string s]) (by simp [evs, hx]) fun w cs _ => by
    simp [builtin, Builtin.len_, run_underlying ht, goInt]
theorem e_len_sl {x : Operand} {T E z y n c : Nat} {a : Option Addr} (ht : slOf P T = some (E, z, y)) (hx : ev Γ x = some (.slice a n c) := by rfl) : EO P g ⟨dst, .call ⟨.builtin .len, #[x], #[T]⟩, t, pos, aft, gd⟩ Γ L (.int .i64 n) :=
  e_call_b (args := [x]) (vs := [.slice a n c]) (by simp [evs, hx]) fun w cs _ => by
    unfold slOf at ht
    split at ht
    case h_2 => cases ht
    case h_1 hu => simp [builtin, Builtin.len_, run_underlying hu, goInt]
theorem e_maxI {x y : Operand} {T U : TypeId} {k j : IntKind} {a b : Int} (hx : ev Γ x = some (.int k a) := by rfl) (hy : ev Γ y = some (.int j b) := by rfl) : EO P g ⟨dst, .call ⟨.builtin .max, #[x, y], #[T, U]⟩, t, pos, aft, gd⟩ Γ L (.int k (if b > a then b else a)) :=
  e_call_b (args := [x, y]) (vs := [.int k a, .int j b]) (by simp [evs, hx, hy]) fun w cs _ => by
    simp [builtin, Builtin.max_, Builtin.max2]
theorem e_minI {x y : Operand} {T U : TypeId} {k j : IntKind} {a b : Int} (hx : ev Γ x = some (.int k a) := by rfl) (hy : ev Γ y = some (.int j b) := by rfl) : EO P g ⟨dst, .call ⟨.builtin .min, #[x, y], #[T, U]⟩, t, pos, aft, gd⟩ Γ L (.int k (if b < a then b else a)) :=
  e_call_b (args := [x, y]) (vs := [.int k a, .int j b]) (by simp [evs, hx, hy]) fun w cs _ => by
    simp [builtin, Builtin.min_, Builtin.min2]
def sMax (a b : ByteArray) : ByteArray := if sLt a b then b else a
theorem e_maxS {x y : Operand} {T U : TypeId} {a b : ByteArray} (hx : ev Γ x = some (.string a) := by rfl) (hy : ev Γ y = some (.string b) := by rfl) : EO P g ⟨dst, .call ⟨.builtin .max, #[x, y], #[T, U]⟩, t, pos, aft, gd⟩ Γ L (.string (sMax a b)) :=
  e_call_b (args := [x, y]) (vs := [.string a, .string b]) (by simp [evs, hx, hy]) fun w cs _ => by
    simp [builtin, Builtin.max_, Builtin.max2, Op.stringOp, asBool, sMax, sLt]
    by_cases h : Op.bytesLess a.toList b.toList = true <;> simp [h]
theorem e_idx_str {x i : Operand} {T : TypeId} {s : ByteArray} {k : IntKind} {j : Nat} {b : UInt8} (ht : P.underlying T = some .string) (hj : s[j]? = some b) (hx : ev Γ x = some (.string s) := by rfl) (hi : ev Γ i = some (.int k j) := by rfl) :
    EO P g ⟨dst, .index T x i, t, pos, aft, gd⟩ Γ L (.int .u8 b.toNat) :=
  .of (by simp) fun ρ hρ w _ => by
    simp [execOp, hρ x _ (by simp [Op.operands]) hx, hρ i _ (by simp [Op.operands]) hi, Instr.index, asIntOf, run_underlying ht, hj]

/-! ### Pointers and nil -/
section
variable {xt yt : TypeId} {x y : Operand}
def eqOp (op : BinOp) (p : Bool) : Bool := match op with | .neq => !p | _ => p
def eqSem (op : BinOp) (s : Sem Bool) : Sem Value := do pure (.bool (eqOp op (← s)))
theorem e_bin2 {op : BinOp} {u v : Value} {p : Bool} (hg : ∀ w, (eqGuard op xt x y u v).run P w = .ok () w) (hb : binOp op xt u v = eqSem op (Op.equal xt u v))
    (hx : ev Γ x = some u) (hy : ev Γ y = some v) (h : ∀ w, Sat g L w → (Op.equal xt u v).run P w = .ok p w) : EO P g ⟨dst, .binOp op xt x y yt, t, pos, aft, gd⟩ Γ L (.bool (eqOp op p)) :=
  .of (by simp) fun ρ hρ w hw => by
    have h1 := hρ x u (by simp [Op.operands]) hx
    have h2 := hρ y v (by simp [Op.operands]) hy
    show ((do pure (Next.value (← (do eqGuard op xt x y (ρ x) (ρ y); binOp op xt (ρ x) (ρ y) : Sem Value))) : Sem Next)).run P w = _
    rw [h1, h2]
    simp [hg, hb, h w hw, eqSem]
def isPtr (P : Program) (T : TypeId) : Bool := match P.underlying T with | some (.pointer _) => true | _ => false
theorem run_eq_ptr_nil {T : TypeId} (hT : isPtr P T = true) (a : Option Addr) (w : World) : (Op.equal T (.pointer a) (.pointer none)).run P w = .ok a.isNone w := by
  unfold isPtr at hT
  split at hT
  case h_2 => cases hT
  case h_1 e hu =>
    unfold Op.equal; rw [show Op.maxDepth = 9999 + 1 from rfl]; unfold Op.equalIn; simp only [Sem.run_bind, run_underlying hu, Result.andThen_ok]
    cases a <;> rfl
theorem e_peq {a : Option Addr} (hT : isPtr P xt = true) (hx : ev Γ x = some (.pointer a) := by rfl) (hy : ev Γ y = some (.pointer none) := by rfl) : EO P g ⟨dst, .binOp .eql xt x y yt, t, pos, aft, gd⟩ Γ L (.bool a.isNone) :=
  e_bin2 (op := .eql) (fun w => by rw [eqGuard_at_pointer]; rfl) rfl hx hy fun w _ => run_eq_ptr_nil hT a w
theorem e_pne {a : Option Addr} (hT : isPtr P xt = true) (hx : ev Γ x = some (.pointer a) := by rfl) (hy : ev Γ y = some (.pointer none) := by rfl) : EO P g ⟨dst, .binOp .neq xt x y yt, t, pos, aft, gd⟩ Γ L (.bool !a.isNone) :=
  e_bin2 (op := .neq) (fun w => by rw [eqGuard_at_pointer]; rfl) rfl hx hy fun w _ => run_eq_ptr_nil hT a w
end

/-! ### Calls -/
theorem callFunc_run {f : FuncId} {fn : Func} {c : Code} (hf : P.funcs[f]? = some fn) (hb : fn.body = some c) (hn : (fn.name == "runtime.NumGoroutine") = false) (args : Array Value) (w : World) : (callFunc f args).run P w = .ok (.enter f args) w := by
  unfold callFunc
  simp only [Sem.run_bind, run_program, Result.andThen_ok, hf, hn, hb, Option.isNone]
  rfl
/-- A function that can be called. -/
def callable (P : Program) (f : FuncId) : Bool := match P.funcs[f]? with
  | some fn => fn.body.isSome && !(fn.name == "runtime.NumGoroutine")
  | none => false
theorem callFunc_enter {f : FuncId} (h : callable P f = true) (args : Array Value) (w : World) : (callFunc f args).run P w = .ok (.enter f args) w := by
  unfold callable at h
  split at h
  case h_2 => cases h
  case h_1 fn hf =>
    simp at h
    obtain ⟨c, hb⟩ := Option.isSome_iff_exists.1 h.1
    exact callFunc_run hf hb (by simpa using h.2) args w

theorem HO.enter {o : Oper} {K : Value → List HP → Prop} {f : FuncId} {args : List Value} {Pre R : List HP} {T : (Value → List HP → Prop) → List HP → Prop} (hop : ∀ c, o.op ≠ .defer c) (hs : Spec P g f args Pre T) (hL : Split L Pre R)
    (hrun : ∀ a w, Γ.ok a → (execOp a.eval o).run P w = .ok (.enter f args.toArray) w) (hK : T K R) : HO P r g o Γ L K := by
  intro a w Q next ha hw hn
  refine ⟨about_FR, ?_⟩
  rw [Oper.semAt_eq _ _ _ hop, hrun a w ha]
  refine ⟨depth_FR r 0, callsIn_fr ?_⟩
  refine (hs R K w (hw.conv fun _ => hL.to) hK).mono ?_
  rintro e w' ⟨v, M, rfl, hk, hw'⟩
  exact hn v M w' hk hw'
where
  callsIn_fr {f : FuncId} {args : Array Value} {w : World} {R : Ending → World → Prop} (h : Calls P f args w R) : CallsIn (FR r) (0 - 1) P f args w R := (callsIn_wide (n := 0 - 1)).2 h

/-- A call of a known function. -/
theorem h_call {f : FuncId} {as : List Operand} {ts : Array TypeId} {args : List Value} {Pre R : List HP} {T : (Value → List HP → Prop) → List HP → Prop} {K : Value → List HP → Prop} (hs : Spec P g f args Pre T) (hf : callable P f = true)
    (hK : T K R) (ha : evs Γ as = some args := by rfl) (hL : Split L Pre R := by repeat first | exact .nil | exact Pick.z | apply Pick.s | apply Split.cons) : HO P r g ⟨dst, .call ⟨.value (.func f), as.toArray, ts⟩, t, pos, aft, gd⟩ Γ L K :=
  HO.enter (by simp) hs hL (fun a w hΓ => by
    have h1 : as.toArray.map a.eval = args.toArray := evs_mapA ha (fun x u _ hx => ev_ok hx hΓ)
    show (do let d ← resolve a.eval ⟨.value (.func f), as.toArray, ts⟩ t; invoke d.target d.args : Sem Next).run P w = _
    simp only [resolve, h1, Act.eval, Deferred.ofValue, Sem.run_bind, Sem.run_pure, Result.andThen_ok, invoke]
    rw [callFunc_enter hf]; simp) hK
/-- A call of a function's value. -/
theorem h_callv {f : FuncId} {x : Operand} {as : List Operand} {ts : Array TypeId} {fs cs args : List Value} {Pre R : List HP} {T : (Value → List HP → Prop) → List HP → Prop} {K : Value → List HP → Prop} (hs : Spec P g f (fs ++ args ++ cs) Pre T) (hf : callable P f = true)
    (hK : T K R) (hx : ev Γ x = some (.func (.func f) fs.toArray cs.toArray) := by rfl) (ha : evs Γ as = some args := by rfl) (hL : Split L Pre R := by repeat first | exact .nil | exact Pick.z | apply Pick.s | apply Split.cons) : HO P r g ⟨dst, .call ⟨.value x, as.toArray, ts⟩, t, pos, aft, gd⟩ Γ L K :=
  HO.enter (by simp) hs hL (fun a w hΓ => by
    have h1 : as.toArray.map a.eval = args.toArray := evs_mapA ha (fun x u _ hx => ev_ok hx hΓ)
    show (do let d ← resolve a.eval ⟨.value x, as.toArray, ts⟩ t; invoke d.target d.args : Sem Next).run P w = _
    simp only [resolve, h1, ev_ok hx hΓ, Deferred.ofValue, Sem.run_bind, Sem.run_pure, Result.andThen_ok, invoke]
    rw [callFunc_enter hf]; simp) hK

/-! ### New memory, stores -/
theorem run_newVar {T : TypeId} {v : Value} (w : World) : (newVar T v).run P w = .ok ⟨w.heap.size, 0, none⟩ { w with heap := w.heap.push (.cells v.cells T) } := by
  simp [newVar, newRow]
theorem h_alloc {T : TypeId} {zs : List Value} {K : Value → List HP → Prop} (hz : zeroOf P T = some zs) (hK : ∀ b, K (.pointer (some ⟨b, 0, none⟩)) (cl b T zs :: L)) : HO P r g ⟨dst, .alloc T, t, pos, aft, gd⟩ Γ L K :=
  HO.run (by simp) fun a w _ hw => by
    unfold zeroOf at hz
    cases hi : (P.info? T).bind (·.zero) with
    | none => rw [hi] at hz; cases hz
    | some zv =>
      rw [hi] at hz
      simp at hz
      have hz' : zv.cells = zs.toArray := by rw [← hz]
      refine ⟨_, _, _, ?_, hK w.heap.size, hw.push (.cells zs.toArray T (0, 0))⟩
      simp [execOp, Instr.alloc, run_zeroValue hi, run_newVar, hz']
theorem h_box {T : TypeId} {x : Operand} {v : Value} {zs : List Value} {K : Value → List HP → Prop} (hK : ∀ b, K (.pointer (some ⟨b, 0, none⟩)) (cl b T zs :: L)) (hx : ev Γ x = some v := by rfl) (hz : v.cells = zs.toArray := by rfl) : HO P r g ⟨dst, .box T x, t, pos, aft, gd⟩ Γ L K :=
  HO.run (by simp) fun a w ha hw => by
    refine ⟨_, _, _, ?_, hK w.heap.size, hw.push (.cells zs.toArray T (0, 0))⟩
    simp [execOp, Instr.box, ev_ok hx ha, run_newVar, hz]

/-- 'vs' laid over 'l' from 'o' on. -/
def splice : List Value → Nat → List Value → List Value
  | l, _, [] => l
  | l, o, v :: vs => splice (l.set o v) (o + 1) vs
/-- The same, written out. -/
inductive Spl : List Value → Nat → List Value → List Value → Prop
  | done {l : List Value} {o : Nat} : Spl l o [] l
  | here {a z : Value} {l zs m : List Value} {o : Nat} : Nat.beq o 0 = true → Spl l 0 zs m → Spl (a :: l) o (z :: zs) (z :: m)
  | there {a : Value} {l zs m : List Value} {o : Nat} : Nat.beq o 0 = false → Spl l (Nat.pred o) zs m → Spl (a :: l) o zs (a :: m)
theorem splice_cons (a : Value) : ∀ (zs l : List Value) (o : Nat), splice (a :: l) (o + 1) zs = a :: splice l o zs
  | [], _, _ => rfl
  | z :: zs, l, o => by simp only [splice, List.set_cons_succ]; exact splice_cons a zs _ _
theorem Spl.ok {l zs m : List Value} {o : Nat} (h : Spl l o zs m) : splice l o zs = m ∧ (o + zs.length ≤ l.length ∨ zs = []) := by
  induction h with
  | done => exact ⟨rfl, .inr rfl⟩
  | @here a z l zs m o h _ ih =>
    have := Nat.eq_of_beq_eq_true h; subst this
    refine ⟨?_, .inl ?_⟩
    · simp only [splice, List.set_cons_zero]; rw [splice_cons, ih.1]
    · simp only [List.length_cons]
      rcases ih.2 with h0 | h0
      · omega
      · subst h0; simp
  | @there a l zs m o h _ ih =>
    have hn := ne_of_beq_no h
    obtain ⟨k, rfl⟩ : ∃ k, o = k + 1 := ⟨o - 1, by omega⟩
    simp only [Nat.pred_succ] at ih
    refine ⟨by rw [splice_cons, ih.1], ?_⟩
    simp only [List.length_cons]
    rcases ih.2 with h0 | h0
    · left; omega
    · exact .inr h0
theorem run_store_cl {w : World} {b o : Nat} {l : List Value} {T : TypeId} {v : Value} (h : w.heap[b]? = some (.cells l.toArray T (0, 0))) (ho : o < l.length) (hv : v.oneCell' = true) :
    ∃ w', (store ⟨b, o, none⟩ v).run P w = .ok () w' ∧ w'.os = w.os ∧ w'.tape = w.tape ∧ w'.output = w.output ∧ w'.heap.size = w.heap.size ∧ w'.heap[b]? = some (.cells (l.set o v).toArray T (0, 0)) ∧ ∀ i, i ≠ b → w'.heap[i]? = w.heap[i]? := by
  have hc : isCl w b l := ⟨(T, (0, 0)), h⟩
  refine ⟨w.setCell ⟨b, o, none⟩ v, ?_, rfl, rfl, rfl, by simp [World.setCell], ?_, fun i hi => ?_⟩
  · rw [run_store _ _ _ _ _ hv, hc.cell, List.getElem?_eq_getElem ho, show w.frozen? ⟨b, o, none⟩ = false by simp [World.frozen?, h]]; rfl
  · simp only [World.setCell]
    rw [Array.getElem?_modify]
    simp [h]
  · simp only [World.setCell]
    rw [Array.getElem?_modify]
    simp [Ne.symm hi]
theorem run_storeCells {b : Nat} {T : TypeId} : ∀ (vs : List Value) (i o : Nat) (l : List Value) (w : World), w.heap[b]? = some (.cells l.toArray T (0, 0)) → o + i + vs.length ≤ l.length → (∀ v ∈ vs, v.oneCell' = true) →
    ∃ w', (storeCells ⟨b, o, none⟩ vs i).run P w = .ok () w' ∧ w'.os = w.os ∧ w'.tape = w.tape ∧ w'.output = w.output ∧ w'.heap.size = w.heap.size ∧ w'.heap[b]? = some (.cells (splice l (o + i) vs).toArray T (0, 0)) ∧ ∀ j, j ≠ b → w'.heap[j]? = w.heap[j]?
  | [], i, o, l, w, h, _, _ => ⟨w, by simp [storeCells], rfl, rfl, rfl, rfl, h, fun _ _ => rfl⟩
  | v :: vs, i, o, l, w, h, hle, h1 => by
    simp only [List.length_cons] at hle
    obtain ⟨w1, r1, a1, a2, a3, a4, a5, a6⟩ := run_store_cl (P := P) (o := o + i) h (by omega) (h1 v (by simp))
    obtain ⟨w2, r2, b1, b2, b3, b4, b5, b6⟩ := run_storeCells vs (i + 1) o _ w1 a5 (by simp; omega) (fun u hu => h1 u (by simp [hu]))
    refine ⟨w2, ?_, b1.trans a1, b2.trans a2, b3.trans a3, b4.trans a4, b5, fun j hj => (b6 j hj).trans (a6 j hj)⟩
    unfold storeCells
    rw [add_none]
    simp only [Sem.run_bind, r1, Result.andThen_ok]
    exact r2
theorem run_storeVar {T U : TypeId} {b o : Nat} {l zs : List Value} {w : World} {v : Value} {n : Nat} (hT : szOf P T = some n) (hz : v.cells = zs.toArray) (hn : zs.length = n) (h : w.heap[b]? = some (.cells l.toArray U (0, 0))) (hle : o + zs.length ≤ l.length ∨ zs = []) (h1 : ∀ v ∈ zs, v.oneCell' = true) :
    ∃ w', (storeVar T ⟨b, o, none⟩ v).run P w = .ok () w' ∧ w'.os = w.os ∧ w'.tape = w.tape ∧ w'.output = w.output ∧ w'.heap.size = w.heap.size ∧ w'.heap[b]? = some (.cells (splice l o zs).toArray U (0, 0)) ∧ ∀ j, j ≠ b → w'.heap[j]? = w.heap[j]? := by
  rcases hle with hle | rfl
  · obtain ⟨w', hr, h2⟩ := run_storeCells (P := P) (T := U) zs 0 o l w h (by omega) h1
    refine ⟨w', ?_, by simpa using h2⟩
    unfold storeVar
    simp [run_sizeOf hT, hz, hn, hr]
  · refine ⟨w, ?_, rfl, rfl, rfl, rfl, h, fun _ _ => rfl⟩
    unfold storeVar
    simp [run_sizeOf hT, hz, ← hn, storeCells]
def ones : List Value → Bool
  | [] => true
  | v :: l => v.oneCell' && ones l
theorem ones_ok : ∀ {l : List Value}, ones l = true → ∀ v ∈ l, v.oneCell' = true
  | [], _, v, hv => by cases hv
  | u :: l, h, v, hv => by
    simp only [ones, Bool.and_eq_true] at h
    rcases List.mem_cons.1 hv with rfl | hv
    · exact h.1
    · exact ones_ok h.2 v hv
/-- A store into a block that is known whole. -/
theorem h_store {T U : TypeId} {x y : Operand} {b o n : Nat} {l zs l' : List Value} {M M0 : List HP} {v : Value} {K : Value → List HP → Prop} (hT : szOf P T = some n) (hK : K (.tuple #[]) M)
    (hx : ev Γ x = some (.pointer (some ⟨b, o, none⟩)) := by rfl) (hy : ev Γ y = some v := by rfl) (hz : v.cells = zs.toArray := by rfl) (_hp0 : Pick L (cl b U l) M0 := by repeat first | exact .z | apply Pick.s) (hl' : Spl l o zs l' := by repeat first | exact Spl.done | apply Spl.here rfl | apply Spl.there rfl) (hp : Put L (cl b U l) (cl b U l') M := by repeat first | exact .z | apply Put.s) (hn : zs.length = n := by rfl) (h1 : ones zs = true := by rfl) :
    HO P r g ⟨dst, .store T x y, t, pos, aft, gd⟩ Γ L K :=
  HO.run_skip (by simp) fun a w ha hw => by
    obtain ⟨hs, hle⟩ := hl'.ok
    subst hs
    obtain ⟨R, p1, _⟩ := hp.picks
    obtain ⟨w', hr, a1, a2, a3, a4, a5, a6⟩ := run_storeVar (P := P) (T := T) (o := o) (v := v) hT hz hn (hw.get p1) hle (ones_ok h1)
    refine ⟨M, w', ?_, hK, hw.set hp w' a1 a2 a3 a4 a5 a6⟩
    simp [execOp, ev_ok hx ha, ev_ok hy ha, Instr.storeAt, Instr.sureAddr, hr]

end
end Go.SL

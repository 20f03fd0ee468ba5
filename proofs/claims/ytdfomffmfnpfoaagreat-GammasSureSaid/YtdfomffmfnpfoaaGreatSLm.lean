/- The steps of the walk: bytes and texts; append that takes new memory; other comparisons. -/
import Derived.Test.YtdfomffmfnpfoaaGreatSLl
import Derived.Laws.BytesString
import Derived.Laws.Externs
set_option linter.unusedSimpArgs false
set_option linter.unusedVariables false
set_option linter.unusedSectionVars false
namespace Go.SL
open Go

def eB (b : UInt8) : List Value := [.int .u8 b.toNat]
theorem eB_ok : EncOk 1 eB := ⟨fun _ => rfl, fun _ => rfl⟩
def bytesOf (s : ByteArray) : List UInt8 := s.data.toList
def textOf (l : List UInt8) : ByteArray := ⟨l.toArray⟩

section
variable {P : Program} {r : Option Nat} {g : World} {Γ : Env} {L M : List HP} {Q : Post} {dst : Option Tmp} {t : TypeId} {pos : String} {aft : Array Edge} {gd : Option (Nat × Bool)}

theorem eB_flat (l : List UInt8) : l.flatMap eB = l.map fun b => .int .u8 b.toNat := by
  induction l with
  | nil => rfl
  | cons b l ih => rw [List.flatMap_cons, ih]; rfl
theorem hl_append_s {T T2 E y : Nat} {x xv : Operand} {u : Value} {s : ByteArray} {xs : List UInt8} {zs : List Value} {R : List HP} {K : Value → List HP → Prop} (hs : slOf P T = some (E, 1, y)) (h2 : P.underlying T2 = some .string) (hz : zeroOf P E = some zs) (hb : xs.length + s.size ≤ 68719476736) (hK : ∀ a m c, K (.slice a m c) (Sl E 1 eB (.slice a m c) (xs ++ bytesOf s) :: R)) (hzz : zs.length = 1 := by rfl) (hy : y ≤ 512 := by decide)
    (hx : ev Γ x = some u := by rfl) (hv : ev Γ xv = some (.string s) := by rfl) (p1 : Pick L (Sl E 1 eB u xs) R := by repeat first | exact .z | apply Pick.s) : HO P r g ⟨dst, .call ⟨.builtin .append, #[x, xv], #[T, T2]⟩, t, pos, aft, gd⟩ Γ L K := by
  refine h_append (k := s.size) (ds := (bytesOf s).flatMap eB) hs ⟨_, h2, by simp⟩ hz hzz hx hv p1 (fun w hw => ⟨rfl, ?_⟩) ?_ (ones_flat eB_ok _) (by decide) hb hy fun a m c => ?_
  · simp only [Builtin.firstCells, Sem.run_pure]
    congr 1
    apply Array.ext'
    rw [eB_flat]
    simp [bytesOf, ByteArray.extract_zero_size]
  · rw [flat_len eB_ok]; rfl
  · have := hK a m c
    unfold Sl at this
    rwa [List.length_append, List.flatMap_append] at this
theorem foldl_push : ∀ (l : List UInt8) (s : ByteArray), (l.map fun b => (b.toNat : Int)).foldl (fun r n => r.push (UInt8.ofNat n.toNat)) s = ⟨s.data ++ l.toArray⟩
  | [], s => by simp
  | b :: l, s => by
    rw [List.map_cons, List.foldl_cons, foldl_push l]
    simp only [ByteArray.push]
    congr 1
    apply Array.ext'; simp
theorem e_b2s {x : Operand} {s d e : TypeId} {u : Value} {A : HP} {xs : List UInt8} (hs : P.underlying s = some (.slice e)) (he : P.underlying e = some (.int .u8)) (hd : P.underlying d = some .string) (hA : RL A 1 eB u xs) (hx : ev Γ x = some u := by rfl) (hp : Pick L A M := by repeat first | exact .z | apply Pick.s) :
    EO P g ⟨dst, .convert s d x, t, pos, aft, gd⟩ Γ L (.string (textOf xs)) :=
  .of (by simp) fun ρ hρ w hw => by
    have hr := hw.rd hp hA
    have hcv : (Conv.bytesToString u).run P w = .ok (.string (textOf xs)) w := by
      have hread := hr.read (P := P)
      rcases hr with ⟨h1, h2, a, c, rfl⟩ | ⟨b, o, c, l, t, rfl, _⟩
      · have : xs = [] := by simpa using h1
        subst this
        cases a with
        | none => rfl
        | some a =>
          rw [run_bytesToString (ns := []) w a 0 c (by simp [loadCells, loadCellsFrom])]; rfl
      · have h := hread.2
        simp only [Builtin.firstCells, Nat.mul_one] at h
        rw [run_bytesToString (ns := xs.map fun b => (b.toNat : Int)) w _ _ _ (by rw [h, eB_flat]; simp [Function.comp_def]), foldl_push]
        congr 2; simp [textOf]
    simp only [execOp, hρ x _ (by simp [Op.operands]) hx, convert, Sem.run_bind, run_underlying hs, run_underlying hd, run_underlying he, Result.andThen_ok]
    cases hu : u <;> rw [hu] at hcv <;> first | (simp [run_underlying he, hcv]; done) | (rcases hr with ⟨_, _, a, c, e⟩ | ⟨b, o, c, l, t, e, _⟩ <;> rw [hu] at e <;> cases e)

section
variable {xt yt : TypeId} {x y : Operand}
theorem beq8 (a b : UInt8) : ((a.toNat : Int) == (b.toNat : Int)) = (a == b) := by rw [Bool.eq_iff_iff]; simp [← UInt8.toNat_inj]; omega
theorem beq32 (a b : UInt32) : ((a.toNat : Int) == (b.toNat : Int)) = (a == b) := by rw [Bool.eq_iff_iff]; simp [← UInt32.toNat_inj]; omega
theorem blt32 (a b : UInt32) : decide ((a.toNat : Int) < (b.toNat : Int)) = decide (a < b) := by rw [Bool.eq_iff_iff]; simp [UInt32.lt_iff_toNat_lt]
theorem e_eql8 {a b : UInt8} (hx : ev Γ x = some (.int .u8 a.toNat) := by rfl) (hy : ev Γ y = some (.int .u8 b.toNat) := by rfl) : EO P g ⟨dst, .binOp .eql xt x y yt, t, pos, aft, gd⟩ Γ L (.bool (a == b)) := beq8 a b ▸ e_eql hx hy
theorem e_neq8 {a b : UInt8} (hx : ev Γ x = some (.int .u8 a.toNat) := by rfl) (hy : ev Γ y = some (.int .u8 b.toNat) := by rfl) : EO P g ⟨dst, .binOp .neq xt x y yt, t, pos, aft, gd⟩ Γ L (.bool (a != b)) := (show ((a.toNat : Int) != (b.toNat : Int)) = (a != b) by simp only [bne, beq8]) ▸ e_neq hx hy
theorem e_eql32 {a b : UInt32} (hx : ev Γ x = some (.int .u32 a.toNat) := by rfl) (hy : ev Γ y = some (.int .u32 b.toNat) := by rfl) : EO P g ⟨dst, .binOp .eql xt x y yt, t, pos, aft, gd⟩ Γ L (.bool (a == b)) := beq32 a b ▸ e_eql hx hy
theorem e_neq32 {a b : UInt32} (hx : ev Γ x = some (.int .u32 a.toNat) := by rfl) (hy : ev Γ y = some (.int .u32 b.toNat) := by rfl) : EO P g ⟨dst, .binOp .neq xt x y yt, t, pos, aft, gd⟩ Γ L (.bool (a != b)) := (show ((a.toNat : Int) != (b.toNat : Int)) = (a != b) by simp only [bne, beq32]) ▸ e_neq hx hy
theorem e_lss32 {a b : UInt32} (hx : ev Γ x = some (.int .u32 a.toNat) := by rfl) (hy : ev Γ y = some (.int .u32 b.toNat) := by rfl) : EO P g ⟨dst, .binOp .lss xt x y yt, t, pos, aft, gd⟩ Γ L (.bool (decide (a < b))) := blt32 a b ▸ e_lss hx hy
theorem e_gtr32 {a b : UInt32} (hx : ev Γ x = some (.int .u32 a.toNat) := by rfl) (hy : ev Γ y = some (.int .u32 b.toNat) := by rfl) : EO P g ⟨dst, .binOp .gtr xt x y yt, t, pos, aft, gd⟩ Γ L (.bool (decide (b < a))) := blt32 b a ▸ e_gtr hx hy
theorem wadd32 (a b : UInt32) : IntKind.u32.wrap ((a.toNat : Int) + b.toNat) = (a + b).toNat := by rw [UInt32.toNat_add]; simp [IntKind.wrap, IntKind.bits, IntKind.signed]
theorem e_add32 {a b : UInt32} (hx : ev Γ x = some (.int .u32 a.toNat) := by rfl) (hy : ev Γ y = some (.int .u32 b.toNat) := by rfl) : EO P g ⟨dst, .binOp .add xt x y yt, t, pos, aft, gd⟩ Γ L (.int .u32 (a + b).toNat) := e_add hx hy (wadd32 a b)
end

theorem wu8 (x : Nat) : IntKind.u8.wrap (x : Int) = ((UInt8.ofNat x).toNat : Nat) := by simp [IntKind.wrap, IntKind.bits, IntKind.signed]
theorem wu32 (x : Nat) : IntKind.u32.wrap (x : Int) = ((UInt32.ofNat x).toNat : Nat) := by simp [IntKind.wrap, IntKind.bits, IntKind.signed]
theorem e_c8 {x : Operand} {s d : TypeId} {j : IntKind} {a : Nat} (hs : (P.underlying s).isSome = true) (hd : P.underlying d = some (.int .u8)) (hx : ev Γ x = some (.int j a) := by rfl) : EO P g ⟨dst, .convert s d x, t, pos, aft, gd⟩ Γ L (.int .u8 (UInt8.ofNat a).toNat) := e_conv hs hd hx (wu8 a)
theorem e_c32 {x : Operand} {s d : TypeId} {j : IntKind} {a : Nat} (hs : (P.underlying s).isSome = true) (hd : P.underlying d = some (.int .u32)) (hx : ev Γ x = some (.int j a) := by rfl) : EO P g ⟨dst, .convert s d x, t, pos, aft, gd⟩ Γ L (.int .u32 (UInt32.ofNat a).toNat) := e_conv hs hd hx (wu32 a)
theorem e_shrN {x y : Operand} {xt yt : TypeId} {k k' : IntKind} {a m : Nat} (h1 : m ≤ k.bits) (hx : ev Γ x = some (.int k a) := by rfl) (hy : ev Γ y = some (.int k' m) := by rfl) : EO P g ⟨dst, .binOp .shr xt x y yt, t, pos, aft, gd⟩ Γ L (.int k (a / 2 ^ m : Nat)) :=
  e_shr hx hy (by omega) (by omega) (by simp)
theorem nil_own {E z : Nat} {a : Option Addr} {S : Piece} (h : stars L S) : stars (Own E z (.slice a 0 0) 0 [] :: L) S := ⟨fun _ => none, S, fun _ => .inl rfl, (fun _ _ h => by cases h), le_refl _, .inl ⟨rfl, rfl, a, rfl⟩, h⟩
theorem nil_sl {α : Type} {E z : Nat} {enc : α → List Value} {a : Option Addr} {S : Piece} (h : stars L S) : stars (Sl E z enc (.slice a 0 0) [] :: L) S := nil_own h
theorem WL.nils {α : Type} {ops rest : List Oper} (E z : Nat) (enc : α → List Value) (a : Option Addr) (h : WL P r g ops rest Q Γ (Sl E z enc (.slice a 0 0) [] :: L)) : WL P r g ops rest Q Γ L := WL.conv (fun _ => nil_sl) h
theorem WP.nils {α : Type} {c : Code} (E z : Nat) (enc : α → List Value) (a : Option Addr) (h : WP P r g c Q Γ (Sl E z enc (.slice a 0 0) [] :: L)) : WP P r g c Q Γ L := WP.conv (fun _ => nil_sl) h
theorem PO.conv {e : Exit} (hc : ∀ S, stars L S → stars M S) (h : PO g Q e Γ M) : PO g Q e Γ L := fun a w ha hw => h a w ha (hw.conv hc)
theorem PO.nils {α : Type} {e : Exit} (E z : Nat) (enc : α → List Value) (a : Option Addr) (h : PO g Q e Γ (Sl E z enc (.slice a 0 0) [] :: L)) : PO g Q e Γ L := PO.conv (fun _ => nil_sl) h
theorem WL.sh {ops rest : List Oper} {E z n : Nat} {u : Value} {cs : List Value} (k : ∀ a m c, u = .slice a m c → WL P r g ops rest Q Γ L) (hp : Pick L (Own E z u n cs) M := by repeat first | exact .z | apply Pick.s) : WL P r g ops rest Q Γ L := fun a w ha hw => by
  obtain ⟨S1, S2, _, _, _, h1, _⟩ := hp.to hw.heap
  obtain ⟨b, m, c, e⟩ := own_shape h1
  exact k b m c e a w ha hw
theorem WP.sh {c : Code} {E z n : Nat} {u : Value} {cs : List Value} (k : ∀ a m c', u = .slice a m c' → WP P r g c Q Γ L) (hp : Pick L (Own E z u n cs) M := by repeat first | exact .z | apply Pick.s) : WP P r g c Q Γ L := fun a w ha hw => by
  obtain ⟨S1, S2, _, _, _, h1, _⟩ := hp.to hw.heap
  obtain ⟨b, m, c, e⟩ := own_shape h1
  exact k b m c e a w ha hw
theorem PO.sh {e : Exit} {E z n : Nat} {u : Value} {cs : List Value} (k : ∀ a m c', u = .slice a m c' → PO g Q e Γ L) (hp : Pick L (Own E z u n cs) M := by repeat first | exact .z | apply Pick.s) : PO g Q e Γ L := fun a w ha hw => by
  obtain ⟨S1, S2, _, _, _, h1, _⟩ := hp.to hw.heap
  obtain ⟨b, m, c, e⟩ := own_shape h1
  exact k b m c e a w ha hw
theorem HO.conv {o : Oper} {K : Value → List HP → Prop} (hc : ∀ S, stars L S → stars M S) (h : HO P r g o Γ M K) : HO P r g o Γ L K := fun a w Q next ha hw hn => h a w Q next ha (hw.conv hc) hn

/-! ### append of noughts to what is only read -/
theorem h_grow0 {T T2 E z y n c k b o : Nat} {U : TypeId} {q j : IntKind} {x xv : Operand} {u : Value} {l zs : List Value} {R : List HP} {K : Value → List HP → Prop} (hs : slOf P T = some (E, z, y)) (h2 : P.underlying T2 = some (.int q)) (hz : zeroOf P E = some zs) (hzz : zs.length = z)
    (hA : At u b o n c) (hl : o + c * z ≤ l.length) (hnk : c < n + k) (hb : n + k ≤ 68719476736) (hz0 : 0 < z) (hy : y ≤ 512) (hK : ∀ u', K u' (Own E z u' (n + k) ((l.drop o).take (n * z) ++ (List.replicate k zs).flatten) :: L)) (hx : ev Γ x = some u := by rfl) (hv : ev Γ xv = some (.int j k) := by rfl)
    (p1 : Pick L (cl b U l) R := by repeat first | exact .z | apply Pick.s) : HO P r g ⟨dst, .call ⟨.builtin .append, #[x, xv], #[T, T2]⟩, t, pos, aft, gd⟩ Γ L K :=
  HO.run (by simp) fun a w ha hw => by
    obtain ⟨hu, hsz, inf, hinf, rfl, rfl⟩ := slOf_und hs
    have hrd := hw.rd p1 (hA.rd (T := U) hl)
    obtain ⟨a', rfl, hn, _⟩ := hA
    unfold zeroOf at hz
    cases hzi : (P.info? E).bind (·.zero) with
    | none => rw [hzi] at hz; cases hz
    | some zv =>
    rw [hzi] at hz
    simp at hz
    have hz' : zv.cells = zs.toArray := by rw [← hz]
    have hnext := nextcap_le hnk
    have hmul : Builtin.nextslicecap (n + k) c * inf.bytes ≤ (2 * (n + k) + 192) * 512 := Nat.mul_le_mul hnext hy
    let qq : Question := .appendCap (n + k) c E
    let nc := qq.cut (w.tape w.drawn qq)
    have hnc2 : nc = n + k + (w.tape w.drawn qq) % (2 ^ 63 - (n + k)) := rfl
    have hlt : (w.tape w.drawn qq) % (2 ^ 63 - (n + k)) < 2 ^ 63 - (n + k) := Nat.mod_lt _ (by omega)
    obtain ⟨cs, hcs⟩ : ∃ cs, (l.drop o).take (n * inf.size) = cs := ⟨_, rfl⟩
    obtain ⟨ds, hds⟩ : ∃ ds, (List.replicate k zs).flatten = ds := ⟨_, rfl⟩
    rw [hcs] at hrd hK; rw [hds] at hK
    let row := (cs ++ ds ++ (Builtin.zeroCells zs.toArray (nc - (n + k))).toList)
    have hcl : cs.length = n * inf.size := hrd.len
    have hdl : ds.length = k * inf.size := by rw [← hds]; simp [hzz]
    have hm : (#[x, xv] : Array Operand).map a.eval = #[.slice a' n c, .int j k] := by simp [ev_ok hx ha, ev_ok hv ha]
    refine ⟨.slice (some ⟨w.heap.size, 0, none⟩) (n + k) nc, _, w.drew.alloc (.cells row.toArray E (0, 0)), ?_, hK _, ?_⟩
    · show (do let d ← resolve a.eval ⟨.builtin .append, #[x, xv], #[T, T2]⟩ t; invoke d.target d.args : Sem Next).run P w = _
      simp only [resolve, hm, Sem.run_bind, Sem.run_pure, Result.andThen_ok, invoke, builtin]
      simp only [Builtin.append_, List.getElem?_toArray, List.getElem?_cons_zero, List.getElem?_cons_succ, Sem.run_bind, run_underlying hu, Result.andThen_ok, run_sizeOf hsz, run_underlying h2]
      have e0 : IntKind.i64.wrap (k : Int) = k := IntWalk.i64_in _ (by omega)
      have e1 : ¬ (9223372036854775807 < (n : Int) + k) := by omega
      have e2 : ¬ 2 ^ 48 < Builtin.nextslicecap (n + k) c * inf.bytes := by omega
      have hcs' : (Builtin.firstCells inf.size n (.slice a' n c)).run P w.drew = .ok cs.toArray w.drew := by
        have : RdS (heapOf w.drew) inf.size (.slice a' n c) n cs := hrd
        exact (this.read (P := P)).2
      have e3 : ¬ n + k ≤ c := by omega
      have e4 : ¬ (k : Int) < 0 := by omega
      have hkm : inf.bytes * k ≤ 512 * 68719476736 := Nat.mul_le_mul hy (by omega)
      have e5 : ¬ ((281474976710656 : Int) < (k : Int) * inf.bytes) := by
        have h5 : ((inf.bytes * k : Nat) : Int) ≤ 35184372088832 := by omega
        rw [Int.natCast_mul, Int.mul_comm] at h5; omega
      have hz2 : (Builtin.zeroCells zs.toArray k).toList = ds := by rw [← hds]; exact zeroCells_eq
      by_cases h0 : k * inf.size = 0
      · have hk0 : k = 0 := by rcases Nat.mul_eq_zero.1 h0 with h | h <;> omega
        omega
      · simp [asInt, asIntOf, e0, e1, e2, e3, e4, e5, h0, run_typeInfo hinf, Question.forced, hcs', run_zeroValue hzi, newRow, hz', row, nc, qq]
        congr 2; apply Array.ext'; simp [hz2]
    · have h := (hw.draw (w.drawn + 1))
      have h' := h.push (.cells row.toArray E (0, 0))
      obtain ⟨T1, T2', hd', m1, m2, hA1, hA2⟩ := h'.heap
      refine ⟨h'.os, h'.tape, h'.output, h'.size, T1, T2', hd', m1, m2, .inr ⟨w.heap.size, 0, nc, row, rfl, by omega, by omega, hA1, ?_, ?_⟩, hA2⟩
      · simp only [row, List.length_append, Array.length_toList, mod_arr_len, List.size_toArray, hcl, hdl, hzz]
        rw [Nat.zero_add, ← Nat.add_mul, ← Nat.add_mul]
        exact Nat.mul_le_mul_right _ (by omega)
      · rw [List.drop_zero]
        simp only [row]
        rw [List.take_append_of_le_length (by simp [hcl, hdl, Nat.add_mul]), List.take_of_length_le (by simp [hcl, hdl, Nat.add_mul])]

theorem h_grow {T T2 E z y n c k b o : Nat} {U : TypeId} {q j : IntKind} {x xv : Operand} {u : Value} {l zs : List Value} {R : List HP} {K : Value → List HP → Prop} (hs : slOf P T = some (E, z, y)) (h2 : P.underlying T2 = some (.int q)) (hz : zeroOf P E = some zs) (hzz : zs.length = z)
    (hA : At u b o n c) (hl : o + c * z ≤ l.length) (hnk : c < n + k) (hb : n + k ≤ 68719476736) (hz0 : 0 < z) (hy : y ≤ 512) (hK : ∀ a m c, K (.slice a m c) (Own E z (.slice a m c) (n + k) ((l.drop o).take (n * z) ++ (List.replicate k zs).flatten) :: L)) (hx : ev Γ x = some u := by rfl) (hv : ev Γ xv = some (.int j k) := by rfl)
    (p1 : Pick L (cl b U l) R := by repeat first | exact .z | apply Pick.s) : HO P r g ⟨dst, .call ⟨.builtin .append, #[x, xv], #[T, T2]⟩, t, pos, aft, gd⟩ Γ L K :=
  HO.shape (fun _ h0 => h_grow0 hs h2 hz hzz hA hl hnk hb hz0 hy h0 hx hv p1) hK
/-! ### slices.overlaps, two blocks -/
theorem h_overlaps {f : FuncId} {fn : Func} {tS tR E z y n1 c1 n2 c2 o1 b1 b2 : Nat} {U : TypeId} {x1 x2 : Operand} {ts : Array TypeId} {u1 u2 : Value} {l1 l2 : List Value} {R N : List HP} {K : Value → List HP → Prop} (hf : P.funcs[f]? = some fn) (h1 : (fn.name == "runtime.NumGoroutine") = false) (h2 : fn.body.isNone = true) (h3 : Extern.findNext fn = none)
    (h4 : Extern.find fn = some (Extern.SlicesOverlaps.overlaps #[tS, tS] #[tR])) (hs : slOf P tS = some (E, z, y)) (hA1 : u1 = .slice (some ⟨b1, o1, none⟩) n1 c1) (hA2 : ∃ o2, u2 = .slice (some ⟨b2, o2, none⟩) n2 c2) (p1 : Pick L (cl b1 U l1) R) (p2 : Pick R (cl b2 U l2) N) (hl2 : 0 < l2.length) (hK : K (.bool false) L)
    (hx1 : ev Γ x1 = some u1 := by rfl) (hx2 : ev Γ x2 = some u2 := by rfl) : HO P r g ⟨dst, .call ⟨.value (.func f), #[x1, x2], ts⟩, t, pos, aft, gd⟩ Γ L K :=
  HO.run (by simp) fun a w ha hw => by
    subst hA1
    obtain ⟨o2, rfl⟩ := hA2
    refine ⟨.bool false, L, w, ?_, hK, hw⟩
    have hm : (#[x1, x2] : Array Operand).map a.eval = #[.slice (some ⟨b1, o1, none⟩) n1 c1, .slice (some ⟨b2, o2, none⟩) n2 c2] := by simp [ev_ok hx1 ha, ev_ok hx2 ha]
    have hne : b1 ≠ b2 := pick_ne p1 p2 _ hw.heap
    have hb1 := hw.get p1
    have hb2 : w.heap[b2]? = some (.cells l2.toArray U (0, 0)) := by
      obtain ⟨S1, S2, hd, m1, m2, h5, h6⟩ := p1.to hw.heap
      obtain ⟨S3, S4, _, m3, _, h7, _⟩ := p2.to h6
      exact m2 _ _ (m3 _ _ h7)
    have hsz := (slOf_und hs).2.1
    have hov := Lib.run_overlaps_apart w tS tR E (slOf_und hs).1 z (fun w => run_sizeOf hsz w) ⟨b1, o1, none⟩ ⟨b2, o2, none⟩ n1 c1 n2 c2 hne U U l1.length l2.length (by simp [World.shape?, hb1]) (by simp [World.shape?, hb2]) (by omega) (by simp [World.frozen?, hb1]) (by simp [World.frozen?, hb1])
    show (do let d ← resolve a.eval ⟨.value (.func f), #[x1, x2], ts⟩ t; invoke d.target d.args : Sem Next).run P w = _
    simp only [resolve, hm, Act.eval, Deferred.ofValue, Sem.run_bind, Sem.run_pure, Result.andThen_ok, invoke, Array.append_empty, Array.empty_append]
    rw [run_callFunc_extern hf h1 h2 h3 h4, hov]; rfl

/-! ### Pointers -/
theorem e_pp {xt yt E z : TypeId} {x y : Operand} {op : BinOp} {b c o p : Nat} (hop : op = .eql ∨ op = .neq) {q : Bool} (hT : P.underlying xt = some (.pointer E)) (hz : szOf P E = some z) (hz0 : z ≠ 0) (hx : ev Γ x = some (.pointer (some ⟨b, o, none⟩)) := by rfl) (hy : ev Γ y = some (.pointer (some ⟨c, p, none⟩)) := by rfl)
    (h : (q = true ∧ b = c ∧ o = p) ∨ (q = false ∧ ∃ U V l m R N, Pick L (cl b U l) R ∧ Pick R (cl c V m) N)) : EO P g ⟨dst, .binOp op xt x y yt, t, pos, aft, gd⟩ Γ L (.bool (eqOp op q)) :=
  e_bin2 (fun w => by rw [eqGuard_at_pointer]; rfl) (by rcases hop with rfl | rfl <;> rfl) hx hy fun w hw => by
    unfold Op.equal; rw [show Op.maxDepth = 9999 + 1 from rfl]; unfold Op.equalIn; simp only [Sem.run_bind, run_underlying hT, Result.andThen_ok, run_sizeOf hz, hz0, ne_eq, not_false_eq_true, if_true]
    rcases h with ⟨rfl, rfl, rfl⟩ | ⟨rfl, U, V, l, m, R, N, p1, p2⟩
    · simp [sameAddr]
    · have hne : b ≠ c := pick_ne p1 p2 _ hw.heap
      have hb := hw.get p1
      have hc : w.heap[c]? = some (.cells m.toArray V (0, 0)) := by
        obtain ⟨S1, S2, hd, m1, m2, h5, h6⟩ := p1.to hw.heap
        obtain ⟨S3, S4, _, m3, _, h7, _⟩ := p2.to h6
        exact m2 _ _ (m3 _ _ h7)
      simp [sameAddr, hne, frozen, noView, viewAt, mayBeOne, stringish, shape, Sem.run, World.frozen?, World.shape?, hb, hc]
end
end Go.SL

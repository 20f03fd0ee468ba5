/- The steps of the walk: bits; blocks as a whole. -/
import Derived.Test.YtdfomffmfnpfoaaGreatSLm
set_option linter.unusedSimpArgs false
set_option linter.unusedVariables false
set_option linter.unusedSectionVars false
namespace Go.SL
open Go

theorem bv32 (a : UInt32) : BitVec.ofInt IntKind.u32.bits (a.toNat : Int) = a.toBitVec := by
  show BitVec.ofInt 32 _ = _
  apply BitVec.eq_of_toNat_eq; simp
theorem bv8 (a : UInt8) : BitVec.ofInt IntKind.u8.bits (a.toNat : Int) = a.toBitVec := by
  show BitVec.ofInt 8 _ = _
  apply BitVec.eq_of_toNat_eq; simp
theorem back32 (x : BitVec 32) : IntKind.u32.wrap (x.toNat : Int) = ((⟨x⟩ : UInt32).toNat : Int) := by
  rw [wu32]; congr 1; show (UInt32.ofNat x.toNat).toNat = x.toNat; simp
theorem back8 (x : BitVec 8) : IntKind.u8.wrap (x.toNat : Int) = ((⟨x⟩ : UInt8).toNat : Int) := by
  rw [wu8]; congr 1; show (UInt8.ofNat x.toNat).toNat = x.toNat; simp
theorem band32 (a b : UInt32) : bits .and .u32 (a.toNat : Int) (b.toNat : Int) = ((a &&& b).toNat : Int) := by unfold bits; simp only [bv32]; exact back32 _
theorem bor32 (a b : UInt32) : bits .or .u32 (a.toNat : Int) (b.toNat : Int) = ((a ||| b).toNat : Int) := by unfold bits; simp only [bv32]; exact back32 _
theorem bxor32 (a b : UInt32) : bits .xor .u32 (a.toNat : Int) (b.toNat : Int) = ((a ^^^ b).toNat : Int) := by unfold bits; simp only [bv32]; exact back32 _
theorem bxor8 (a b : UInt8) : bits .xor .u8 (a.toNat : Int) (b.toNat : Int) = ((a ^^^ b).toNat : Int) := by unfold bits; simp only [bv8]; exact back8 _
theorem band8 (a b : UInt8) : bits .and .u8 (a.toNat : Int) (b.toNat : Int) = ((a &&& b).toNat : Int) := by unfold bits; simp only [bv8]; exact back8 _

section
variable {P : Program} {r : Option Nat} {g : World} {Γ : Env} {L M : List HP} {Q : Post} {dst : Option Tmp} {t : TypeId} {pos : String} {aft : Array Edge} {gd : Option (Nat × Bool)}
section
variable {xt yt ot : TypeId} {x y : Operand} {a b : UInt32} {p q : UInt8}
theorem e_and32 (hx : ev Γ x = some (.int .u32 a.toNat) := by rfl) (hy : ev Γ y = some (.int .u32 b.toNat) := by rfl) : EO P g ⟨dst, .binOp .and xt x y yt, t, pos, aft, gd⟩ Γ L (.int .u32 (a &&& b).toNat) := e_bits (by simp) hx hy (band32 a b)
theorem e_or32 (hx : ev Γ x = some (.int .u32 a.toNat) := by rfl) (hy : ev Γ y = some (.int .u32 b.toNat) := by rfl) : EO P g ⟨dst, .binOp .or xt x y yt, t, pos, aft, gd⟩ Γ L (.int .u32 (a ||| b).toNat) := e_bits (by simp) hx hy (bor32 a b)
theorem e_xor32 (hx : ev Γ x = some (.int .u32 a.toNat) := by rfl) (hy : ev Γ y = some (.int .u32 b.toNat) := by rfl) : EO P g ⟨dst, .binOp .xor xt x y yt, t, pos, aft, gd⟩ Γ L (.int .u32 (a ^^^ b).toNat) := e_bits (by simp) hx hy (bxor32 a b)
theorem e_xor8 (hx : ev Γ x = some (.int .u8 p.toNat) := by rfl) (hy : ev Γ y = some (.int .u8 q.toNat) := by rfl) : EO P g ⟨dst, .binOp .xor xt x y yt, t, pos, aft, gd⟩ Γ L (.int .u8 (p ^^^ q).toNat) := e_bits (by simp) hx hy (bxor8 p q)
theorem e_not32 (hx : ev Γ x = some (.int .u32 a.toNat) := by rfl) : EO P g ⟨dst, .unOp .xor ot x, t, pos, aft, gd⟩ Γ L (.int .u32 (0xffffffff ^^^ a).toNat) :=
  .of (by simp) fun ρ hρ w _ => by
    have := bxor32 0xffffffff a
    simp only [execOp, hρ x _ (by simp [Op.operands]) hx, Op.unary]
    rw [show (if IntKind.u32.signed = true then (-1 : Int) else IntKind.u32.max) = ((0xffffffff : UInt32).toNat : Int) from rfl, intBits_xor, this]; rfl
theorem e_neg32 (hx : ev Γ x = some (.int .u32 a.toNat) := by rfl) : EO P g ⟨dst, .unOp .neg ot x, t, pos, aft, gd⟩ Γ L (.int .u32 (0 - a).toNat) :=
  .of (by simp) fun ρ hρ w _ => by
    have h : IntKind.u32.wrap (0 - (a.toNat : Int)) = ((0 - a).toNat : Int) := by
      rw [UInt32.toNat_sub]; simp [IntKind.wrap, IntKind.bits, IntKind.signed]; have := a.toNat_lt; omega
    simp only [execOp, hρ x _ (by simp [Op.operands]) hx, Op.unary]
    show ((do pure (Next.value (← Op.intArith .sub .u32 0 a.toNat)) : Sem Next)).run P w = _
    simp only [Op.intArith, h]; rfl
theorem e_shr32 {k' : IntKind} {m : UInt32} (hm : m.toNat < 32) (hx : ev Γ x = some (.int .u32 a.toNat) := by rfl) (hy : ev Γ y = some (.int k' m.toNat) := by rfl) : EO P g ⟨dst, .binOp .shr xt x y yt, t, pos, aft, gd⟩ Γ L (.int .u32 (a >>> m).toNat) :=
  e_shr hx hy (by omega) (by simp [IntKind.bits]; omega) (by rw [UInt32.toNat_shiftRight, Nat.mod_eq_of_lt hm, Nat.shiftRight_eq_div_pow]; simp)
theorem e_shl32 {k' : IntKind} {m : UInt32} (hm : m.toNat < 32) (hx : ev Γ x = some (.int .u32 a.toNat) := by rfl) (hy : ev Γ y = some (.int k' m.toNat) := by rfl) : EO P g ⟨dst, .binOp .shl xt x y yt, t, pos, aft, gd⟩ Γ L (.int .u32 (a <<< m).toNat) :=
  e_shl hx hy (by omega) (by simp [IntKind.bits]; omega) (by
    rw [UInt32.toNat_shiftLeft, Nat.mod_eq_of_lt hm, Nat.shiftLeft_eq]; simp [IntKind.wrap, IntKind.bits, IntKind.signed])
theorem e_c32to8 {s d : TypeId} (hs : (P.underlying s).isSome = true) (hd : P.underlying d = some (.int .u8)) (hx : ev Γ x = some (.int .u32 a.toNat) := by rfl) : EO P g ⟨dst, .convert s d x, t, pos, aft, gd⟩ Γ L (.int .u8 a.toUInt8.toNat) :=
  e_conv hs hd hx (by rw [wu8]; simp)
theorem e_c8to32 {s d : TypeId} (hs : (P.underlying s).isSome = true) (hd : P.underlying d = some (.int .u32)) (hx : ev Γ x = some (.int .u8 p.toNat) := by rfl) : EO P g ⟨dst, .convert s d x, t, pos, aft, gd⟩ Γ L (.int .u32 p.toUInt32.toNat) :=
  e_conv hs hd hx (by rw [wu32]; simp)
theorem e_c32to64 {s d : TypeId} (hs : (P.underlying s).isSome = true) (hd : P.underlying d = some (.int .i64)) (hx : ev Γ x = some (.int .u32 a.toNat) := by rfl) : EO P g ⟨dst, .convert s d x, t, pos, aft, gd⟩ Γ L (.int .i64 a.toNat) :=
  e_conv hs hd hx (w_i64 (by omega) (by have := a.toNat_lt; omega))
end

/-! ### Blocks as a whole -/
theorem ext_all : ∀ (l : List Value), Ext l 0 l.length l
  | [] => .done rfl
  | a :: l => .here rfl rfl (ext_all l)
theorem rv_cellW {p b n : Nat} {u bt : TypeId} {l : List Value} {M : List HP} {rs : List ResultVar} {vs : List Value} (ht : aggOf P u = some (some n)) (hn : l.length = n) (h : RV P g Γ L rs vs) (hx : look Γ.l p = some (.pointer (some ⟨b, 0, none⟩)) := by rfl)
    (hp : Pick L (cl b bt l) M := by repeat first | exact .z | apply Pick.s) : RV P g Γ L (.cell p u :: rs) (.agg l.toArray :: vs) := by
  subst hn; exact rv_cellN ht h hx hp (ext_all l)
theorem e_loadW {x : Operand} {u b n : Nat} {bt : TypeId} {l : List Value} {M : List HP} (ht : aggOf P u = some (some n)) (hn : l.length = n) (hx : ev Γ x = some (.pointer (some ⟨b, 0, none⟩)) := by rfl) (hp : Pick L (cl b bt l) M := by repeat first | exact .z | apply Pick.s) :
    EO P g ⟨dst, .load u x, t, pos, aft, gd⟩ Γ L (.agg l.toArray) := by
  subst hn; exact e_loadN ht hx hp (ext_all l)
/-- A part of an array. -/
theorem e_loadP {x : Operand} {u b o n : Nat} {bt : TypeId} {l vs : List Value} {M : List HP} (ht : aggOf P u = some (some n)) (hle : o + n ≤ l.length) (hv : (l.drop o).take n = vs) (hx : ev Γ x = some (.pointer (some ⟨b, o, none⟩)) := by rfl) (hp : Pick L (cl b bt l) M := by repeat first | exact .z | apply Pick.s) :
    EO P g ⟨dst, .load u x, t, pos, aft, gd⟩ Γ L (.agg vs.toArray) :=
  .of (by simp) fun ρ hρ w hw => by
    subst hv
    simp [execOp, hρ x _ (by simp [Op.operands]) hx, Instr.loadAt, Instr.sureAddr, run_loadVarN' ht (hw.isCl hp) (.inl hle)]
theorem spl_all : ∀ (l zs : List Value), zs.length = l.length → Spl l 0 zs zs
  | [], [], _ => .done
  | a :: l, z :: zs, h => .here rfl (spl_all l zs (by simpa using h))
/-- A store over a whole block. -/
theorem h_storeW {T U : TypeId} {x y : Operand} {b n : Nat} {l zs : List Value} {M : List HP} {v : Value} {K : Value → List HP → Prop} (hT : szOf P T = some n) (hn : zs.length = n) (hl : l.length = n) (h1 : ones zs = true) (hK : K (.tuple #[]) M)
    (hx : ev Γ x = some (.pointer (some ⟨b, 0, none⟩)) := by rfl) (hy : ev Γ y = some v := by rfl) (hz : v.cells = zs.toArray := by rfl) (hp : Put L (cl b U l) (cl b U zs) M := by repeat first | exact .z | apply Put.s) :
    HO P r g ⟨dst, .store T x y, t, pos, aft, gd⟩ Γ L K := by
  obtain ⟨R, p1, _⟩ := hp.picks
  exact h_store hT hK hx hy hz p1 (spl_all l zs (by omega)) hp hn h1
/-- A store into one cell of a block, at an open index. -/
theorem h_store1 {T U : TypeId} {x y : Operand} {b o : Nat} {l : List Value} {M : List HP} {v : Value} {K : Value → List HP → Prop} (hT : szOf P T = some 1) (ho : o < l.length) (h1 : v.oneCell' = true) (hK : K (.tuple #[]) M)
    (hx : ev Γ x = some (.pointer (some ⟨b, o, none⟩)) := by rfl) (hy : ev Γ y = some v := by rfl) (hz : v.cells = #[v] := by rfl) (hp : Put L (cl b U l) (cl b U (l.set o v)) M := by repeat first | exact .z | apply Put.s) :
    HO P r g ⟨dst, .store T x y, t, pos, aft, gd⟩ Γ L K :=
  HO.run_skip (by simp) fun a w ha hw => by
    obtain ⟨R, p1, _⟩ := hp.picks
    obtain ⟨w', hr, a1, a2, a3, a4, a5, a6⟩ := run_storeVar (P := P) (T := T) (o := o) (v := v) (zs := [v]) hT hz rfl (hw.get p1) (.inl (by simp; omega)) (by simpa using h1)
    refine ⟨M, w', ?_, hK, hw.set hp w' a1 a2 a3 a4 a5 a6⟩
    simp [execOp, ev_ok hx ha, ev_ok hy ha, Instr.storeAt, Instr.sureAddr, hr]
/-- make, as a list. -/
theorem hl_make {α : Type} {T E z y n : Nat} {xl xc : Operand} {k k' : IntKind} {zs : List Value} {enc : α → List Value} (a : α) {K : Value → List HP → Prop} (hs : slOf P T = some (E, z, y)) (hz : zeroOf P E = some zs) (hb : n ≤ 68719476736) (hK : ∀ a' m c, K (.slice a' m c) (Sl E z enc (.slice a' m c) (List.replicate n a) :: L)) (hzz : zs.length = z := by rfl) (hy : y ≤ 512 := by decide) (ha : enc a = zs := by rfl)
    (hl : ev Γ xl = some (.int k n) := by rfl) (hc : ev Γ xc = some (.int k' n) := by rfl) : HO P r g ⟨dst, .makeSlice T xl xc, t, pos, aft, gd⟩ Γ L K :=
  h_make hs hz hzz hl hc (Nat.le_refl _) hb hy fun a' m c => by
    have := hK a' m c
    unfold Sl at this
    rw [List.length_replicate] at this
    rw [show (List.replicate n zs).flatten = (List.replicate n a).flatMap enc by rw [← ha]; simp [List.flatMap]]
    exact this
/-- One cell of an element that is owned. -/
theorem hl_set {T E y z f j : Nat} {x v : Operand} {u b : Value} {cs : List Value} {n : Nat} {N : List HP} {K : Value → List HP → Prop} (hT : szOf P T = some 1) (hf : f < n * z) (hK : K (.tuple #[]) N) (h1 : b.oneCell' = true) (hx : ev Γ x = some (elA u f) := by rfl) (hv : ev Γ v = some b := by rfl) (hb : b.cells = #[b] := by rfl)
    (hp : Put L (Own E z u n cs) (Own E z u n (splice cs f [b])) N := by repeat first | exact .z | apply Put.s) : HO P r g ⟨dst, .store T x v, t, pos, aft, gd⟩ Γ L K :=
  h_store_own (E := E) (cs := cs) (zs := [b]) hT hx hv hb rfl (by decide) (by simpa [ones] using h1) (n := n) (z := z) (by omega) hp hK
end
end Go.SL

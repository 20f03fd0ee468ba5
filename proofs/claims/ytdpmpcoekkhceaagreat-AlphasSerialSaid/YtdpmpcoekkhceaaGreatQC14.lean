/- N8 NC ND VQ: rules and walks, several texts in one. -/
import Derived.Test.YtdpmpcoekkhceaaGreatQC13
import Derived.Sort.AssemblyPlain
import Derived.Test.YtdpmpcoekkhceaaGreatProg
import Derived.KernelRfl
/- The library's sort at uint32: rules for the array, and the plain model's steps. -/
set_option linter.unusedSimpArgs false
set_option linter.unusedVariables false
set_option linter.unusedSectionVars false
namespace Go.SL
open Go Go.Proofs Go.Sort
def u32C (n : UInt32) : List Value := [.int .u32 n.toNat]
theorem u32E : EncOk 1 u32C := ⟨fun _ => rfl, fun _ => rfl⟩
def lt32 (x y : UInt32) : Bool := decide (x < y)
theorem swo32 : SWO lt32 where
  irrefl x := by simp [lt32, UInt32.lt_iff_toNat_lt]
  trans x y z h1 h2 := by simp only [lt32, decide_eq_true_eq, UInt32.lt_iff_toNat_lt] at *; omega
  ntrans x y z h1 h2 := by simp only [lt32, decide_eq_false_iff_not, UInt32.lt_iff_toNat_lt] at *; omega
theorem swp_size {α : Type} [Inhabited α] (d : Array α) (i j : Nat) : (swp d i j).size = d.size := by simp [swp]
section
variable {P : Program} {r : Option Nat} {g : World} {Γ : Env} {L M : List HP} {dst : Option Tmp} {t : TypeId} {pos : String} {aft : Array Edge} {gd : Option (Nat × Bool)} {x y : Operand} {xt yt : TypeId}
theorem ea_ia {i : Operand} {s E z j : Nat} {u : Value} {d : Array UInt32} (hs : slOf P s = some (E, 1, z)) (hx : ev Γ x = some u := by rfl) (hi : ev Γ i = some (.int .i64 (j : Nat)) := by rfl) (hp : Pick L (Sl E 1 u32C u d.toList) M := by repeat first | exact .z | apply Pick.s)
    (hj : j < d.size := by first | omega | (simp only [swp_size, Array.size_setIfInBounds]; omega)) : EO P g ⟨dst, .indexAddr s x i, t, pos, aft, gd⟩ Γ L (elA u (j * 1)) :=
  el_ia (xs := d.toList) (enc := u32C) hs sl_rl (by rw [Array.length_toList]; exact hj) hx hi hp
theorem get_arr {d : Array UInt32} {j : Nat} (h : j < d.size) : d.toList[j]? = some d[j]! := by
  rw [Array.getElem?_toList, Array.getElem?_eq_getElem h, getElem!_pos d j h]
theorem ea_load {T E j : Nat} {u : Value} {d : Array UInt32} (ht : aggOf P T = some none) (hx : ev Γ x = some (elA u (j * 1)) := by rfl) (hp : Pick L (Sl E 1 u32C u d.toList) M := by repeat first | exact .z | apply Pick.s)
    (hj : j < d.size := by first | omega | (simp only [swp_size, Array.size_setIfInBounds]; omega)) : EO P g ⟨dst, .load T x, t, pos, aft, gd⟩ Γ L (.int .u32 (d[j]!).toNat) :=
  el_load0 (xs := d.toList) (a := d[j]!) ht u32E sl_rl (get_arr hj) (by decide) hx rfl hp
theorem ha_store {T E j : Nat} {v : Operand} {u : Value} {d : Array UInt32} {a : UInt32} {N : List HP} {K : Value → List HP → Prop} (hT : szOf P T = some 1) (hK : K (.tuple #[]) N) (hx : ev Γ x = some (elA u (j * 1)) := by rfl) (hv : ev Γ v = some (.int .u32 a.toNat) := by rfl)
    (hp : Put L (Sl E 1 u32C u d.toList) (Sl E 1 u32C u (d.setIfInBounds j a).toList) N := by repeat first | exact .z | apply Put.s) (hj : j < d.size := by first | omega | (simp only [swp_size, Array.size_setIfInBounds]; omega)) : HO P r g ⟨dst, .store T x v, t, pos, aft, gd⟩ Γ L K :=
  hl_store (xs := d.toList) (enc := u32C) (E := E) a hT u32E (by rw [Array.length_toList]; exact hj) hK (by decide) hx hv rfl (by rw [← Array.toList_setIfInBounds]; exact hp)
theorem e_addN {a b : Nat} (hx : ev Γ x = some (.int .i64 a) := by rfl) (hy : ev Γ y = some (.int .i64 b) := by rfl) (h : a + b ≤ 4611686018427387904 := by omega) : EO P g ⟨dst, .binOp .add xt x y yt, t, pos, aft, gd⟩ Γ L (.int .i64 ((a + b : Nat) : Int)) :=
  e_add hx hy (by rw [w_i64 (by omega) (by omega)]; omega)
theorem e_subN {a b : Nat} (hx : ev Γ x = some (.int .i64 a) := by rfl) (hy : ev Γ y = some (.int .i64 b) := by rfl) (hle : b ≤ a := by omega) (h : a ≤ 4611686018427387904 := by omega) : EO P g ⟨dst, .binOp .sub xt x y yt, t, pos, aft, gd⟩ Γ L (.int .i64 ((a - b : Nat) : Int)) :=
  e_sub hx hy (by rw [w_i64 (by omega) (by omega)]; omega)
theorem e_mulN {a b : Nat} (hx : ev Γ x = some (.int .i64 a) := by rfl) (hy : ev Γ y = some (.int .i64 b) := by rfl) (h : a * b ≤ 4611686018427387904 := by omega) : EO P g ⟨dst, .binOp .mul xt x y yt, t, pos, aft, gd⟩ Γ L (.int .i64 ((a * b : Nat) : Int)) :=
  e_mul hx hy (by rw [← Int.natCast_mul]; exact w_i64 (by omega) (by omega))
theorem e_quoN {a b : Nat} (hx : ev Γ x = some (.int .i64 a) := by rfl) (hy : ev Γ y = some (.int .i64 b) := by rfl) (hb : 0 < b := by decide) (h : a ≤ 4611686018427387904 := by omega) : EO P g ⟨dst, .binOp .quo xt x y yt, t, pos, aft, gd⟩ Γ L (.int .i64 ((a / b : Nat) : Int)) :=
  e_quo hx hy (by omega) (by
    have h2 := Nat.div_le_self a b
    rw [Int.tdiv_eq_ediv_of_nonneg (by omega), ← Int.natCast_ediv]
    generalize a / b = q at h2 ⊢
    exact w_i64 (by omega) (by omega))
end
/-! the model's steps -/
section
variable {d : Array UInt32} {a b i j : Nat}
theorem ins_step (h1 : a < j) (h2 : lt32 d[j]! d[j - 1]! = true) : insInner lt32 a j d = insInner lt32 a (j - 1) (swp d j (j - 1)) := by
  obtain ⟨k, rfl⟩ : ∃ k, j = k + 1 := ⟨j - 1, by omega⟩
  rw [Nat.add_sub_cancel] at h2 ⊢
  rw [insInner, if_pos (by simp [h2]; omega)]
theorem ins_stop (h : a < j → lt32 d[j]! d[j - 1]! = false) : insInner lt32 a j d = d := by
  cases j with
  | zero => rfl
  | succ k =>
    rw [Nat.add_sub_cancel] at h
    rw [insInner, if_neg]
    intro hh
    simp only [Bool.and_eq_true, decide_eq_true_eq] at hh
    rw [h hh.1] at hh; cases hh.2
theorem insO_step (h : i < b) : insOuter lt32 a b i d = insOuter lt32 a b (i + 1) (insInner lt32 a i d) := by rw [insOuter, if_pos h]
theorem insO_stop (h : ¬ i < b) : insOuter lt32 a b i d = d := by rw [insOuter, if_neg h]
theorem sd_stop {hi first root : Nat} (h : 2 * root + 1 ≥ hi) : siftDown lt32 hi first root d = d := by rw [siftDown, dif_pos h]
theorem sd_r {hi first root : Nat} (h : ¬ 2 * root + 1 ≥ hi) (h2 : 2 * root + 1 + 1 < hi) (h3 : lt32 d[first + (2 * root + 1)]! d[first + (2 * root + 1) + 1]! = true) :
    siftDown lt32 hi first root d = if lt32 d[first + root]! d[first + (2 * root + 1 + 1)]! = true then siftDown lt32 hi first (2 * root + 1 + 1) (swp d (first + root) (first + (2 * root + 1 + 1))) else d := by
  rw [siftDown, dif_neg h, if_pos (by simp [h2, h3])]
  have h4 : 2 * root + 2 < hi := h2
  cases e : lt32 d[first + root]! d[first + (2 * root + 1 + 1)]! with
  | true =>
    rw [if_neg (by simp), dif_pos h4, if_pos rfl]
  | false =>
    rw [if_pos (by simp), if_neg (by simp)]
theorem sd_l {hi first root : Nat} (h : ¬ 2 * root + 1 ≥ hi) (h3 : 2 * root + 1 + 1 < hi → lt32 d[first + (2 * root + 1)]! d[first + (2 * root + 1) + 1]! = false) :
    siftDown lt32 hi first root d = if lt32 d[first + root]! d[first + (2 * root + 1)]! = true then siftDown lt32 hi first (2 * root + 1) (swp d (first + root) (first + (2 * root + 1))) else d := by
  rw [siftDown, dif_neg h, if_neg (by intro hh; simp only [Bool.and_eq_true, decide_eq_true_eq] at hh; rw [h3 hh.1] at hh; cases hh.2)]
  cases e : lt32 d[first + root]! d[first + (2 * root + 1)]! <;> simp
theorem sd_size {hi first : Nat} : ∀ (n root : Nat) (d : Array UInt32), hi - root ≤ n → (siftDown lt32 hi first root d).size = d.size
  | 0, root, d, h => by rw [sd_stop (by omega)]
  | n + 1, root, d, h => by
    by_cases h1 : 2 * root + 1 ≥ hi
    · rw [sd_stop h1]
    · by_cases h2 : 2 * root + 1 + 1 < hi ∧ lt32 d[first + (2 * root + 1)]! d[first + (2 * root + 1) + 1]! = true
      · rw [sd_r h1 h2.1 h2.2]
        split
        · rw [sd_size n _ _ (by omega), swp_size]
        · rfl
      · rw [sd_l h1 (fun h => by cases e : lt32 d[first + (2 * root + 1)]! d[first + (2 * root + 1) + 1]! with
          | true => exact absurd ⟨h, e⟩ h2
          | false => rfl)]
        split
        · rw [sd_size n _ _ (by omega), swp_size]
        · rfl
theorem sdn_size {hi first root : Nat} {d : Array UInt32} : (siftDown lt32 hi first root d).size = d.size := sd_size _ _ _ (Nat.le_refl _)
theorem rev_step (h : i < j) : reverseLoop i j d = reverseLoop (i + 1) (j - 1) (swp d i j) := by rw [reverseLoop, if_pos h]
theorem rev_stop (h : ¬ i < j) : reverseLoop i j d = d := by rw [reverseLoop, if_neg h]
theorem nt {b : Bool} (h : (!b) = true) : b = false := by cases b <;> simp_all
theorem nf {b : Bool} (h : (!b) = false) : b = true := by cases b <;> simp_all
theorem ord_t {sw : Nat} (h : lt32 d[b]! d[a]! = true) : order2 lt32 d a b sw = (b, a, sw + 1) := by rw [order2, if_pos h]
theorem ord_f {sw : Nat} (h : lt32 d[b]! d[a]! = false) : order2 lt32 d a b sw = (a, b, sw) := by rw [order2, if_neg (by rw [h]; simp)]
theorem ord_lt {n sw : Nat} (ha : a < n) (hb : b < n) : (order2 lt32 d a b sw).1 < n ∧ (order2 lt32 d a b sw).2.1 < n ∧ (order2 lt32 d a b sw).2.2 ≤ sw + 1 := by
  cases h : lt32 d[b]! d[a]! with
  | true => rw [ord_t h]; exact ⟨hb, ha, Nat.le_refl _⟩
  | false => rw [ord_f h]; exact ⟨ha, hb, Nat.le_succ _⟩
theorem med_lt {n sw c : Nat} (ha : a < n) (hb : b < n) (hc : c < n) : (median lt32 d a b c sw).1 < n ∧ (median lt32 d a b c sw).2 ≤ sw + 3 := by
  obtain ⟨h1, h2, h3⟩ := ord_lt (d := d) (sw := sw) ha hb
  obtain ⟨h4, h5, h6⟩ := ord_lt (d := d) (sw := (order2 lt32 d a b sw).2.2) h2 hc
  obtain ⟨h7, h8, h9⟩ := ord_lt (d := d) (sw := (order2 lt32 d (order2 lt32 d a b sw).2.1 c (order2 lt32 d a b sw).2.2).2.2) h1 h4
  exact ⟨h8, by show (order2 lt32 d _ _ _).2.2 ≤ _; omega⟩
def cpH (n : Nat) : Hint := if n = 0 then .increasing else if n = 12 then .decreasing else .unknown
def hv : Hint → Nat
  | .unknown => 0
  | .increasing => 1
  | .decreasing => 2
theorem cp1 (h : ¬ b - a ≥ 8) : choosePivot lt32 d a b = (a + (b - a) / 4 * 2, cpH 0) := by unfold choosePivot; simp only [h, if_false]; rfl
theorem cp2 (h : b - a ≥ 8) (h2 : ¬ b - a ≥ 50) : choosePivot lt32 d a b = ((median lt32 d (a + (b - a) / 4 * 1) (a + (b - a) / 4 * 2) (a + (b - a) / 4 * 3) 0).1, cpH (median lt32 d (a + (b - a) / 4 * 1) (a + (b - a) / 4 * 2) (a + (b - a) / 4 * 3) 0).2) := by unfold choosePivot; simp only [h, h2, if_true, if_false]; rfl
theorem cp3 (h : b - a ≥ 8) (h2 : b - a ≥ 50) {r1 r2 r3 r4 : Nat × Nat} (e1 : medianAdjacent lt32 d (a + (b - a) / 4 * 1) 0 = r1) (e2 : medianAdjacent lt32 d (a + (b - a) / 4 * 2) r1.2 = r2) (e3 : medianAdjacent lt32 d (a + (b - a) / 4 * 3) r2.2 = r3) (e4 : median lt32 d r1.1 r2.1 r3.1 r3.2 = r4) : choosePivot lt32 d a b = (r4.1, cpH r4.2) := by
  subst e1 e2 e3 e4
  unfold choosePivot; simp only [h, h2, if_true]; rfl
theorem up_step {p : UInt32 → Bool} (h : i ≤ j) (h2 : p d[i]! = true) : scanUp p d j i = scanUp p d j (i + 1) := by rw [scanUp, if_pos (by simp [h, h2])]
theorem up_stop {p : UInt32 → Bool} (h : i ≤ j → p d[i]! = false) : scanUp p d j i = i := by
  rw [scanUp, if_neg]
  intro hh
  simp only [Bool.and_eq_true, decide_eq_true_eq] at hh
  rw [h hh.1] at hh; cases hh.2
theorem down_step {p : UInt32 → Bool} (h0 : 1 ≤ j) (h : i ≤ j) (h2 : p d[j]! = true) : scanDown p d i j = scanDown p d i (j - 1) := by
  obtain ⟨k, rfl⟩ : ∃ k, j = k + 1 := ⟨j - 1, by omega⟩
  rw [scanDown, if_pos (by simp [h, h2])]; rfl
theorem down_stop {p : UInt32 → Bool} (h : i ≤ j → p d[j]! = false) : scanDown p d i j = j := by
  cases j with
  | zero => rfl
  | succ k =>
    rw [scanDown, if_neg]
    intro hh
    simp only [Bool.and_eq_true, decide_eq_true_eq] at hh
    rw [h hh.1] at hh; cases hh.2
theorem part_stop {i2 j2 : Nat} (e1 : scanUp (fun x => lt32 x d[a]!) d j i = i2) (e2 : scanDown (fun x => !lt32 x d[a]!) d i2 j = j2) (h : i2 > j2) : partLoop lt32 a i j d = (j2, d) := by
  subst e1 e2; rw [partLoop]; simp only [h, if_true]
theorem part_step {i2 j2 : Nat} (e1 : scanUp (fun x => lt32 x d[a]!) d j i = i2) (e2 : scanDown (fun x => !lt32 x d[a]!) d i2 j = j2) (h : ¬ i2 > j2) (hg : (j2 - 1) + 1 - (i2 + 1) < j + 1 - i) : partLoop lt32 a i j d = partLoop lt32 a (i2 + 1) (j2 - 1) (swp d i2 j2) := by
  subst e1 e2; rw [partLoop]; simp only [h, if_false]; rw [dif_pos hg]
theorem parte_stop {i2 j2 : Nat} (e1 : scanUp (fun x => !lt32 d[a]! x) d j i = i2) (e2 : scanDown (fun x => lt32 d[a]! x) d i2 j = j2) (h : i2 > j2) : partEqLoop lt32 a i j d = (i2, d) := by
  subst e1 e2; rw [partEqLoop]; simp only [h, if_true]
theorem parte_step {i2 j2 : Nat} (e1 : scanUp (fun x => !lt32 d[a]! x) d j i = i2) (e2 : scanDown (fun x => lt32 d[a]! x) d i2 j = j2) (h : ¬ i2 > j2) (hg : (j2 - 1) + 1 - (i2 + 1) < j + 1 - i) : partEqLoop lt32 a i j d = partEqLoop lt32 a (i2 + 1) (j2 - 1) (swp d i2 j2) := by
  subst e1 e2; rw [partEqLoop]; simp only [h, if_false]; rw [dif_pos hg]
theorem partition_t {pv i1 j1 : Nat} {d0 : Array UInt32} (e0 : swp d a pv = d0) (e1 : scanUp (fun x => lt32 x d0[a]!) d0 (b - 1) (a + 1) = i1) (e2 : scanDown (fun x => !lt32 x d0[a]!) d0 i1 (b - 1) = j1) (h : i1 > j1) : partition lt32 d a b pv = (j1, true, swp d0 j1 a) := by
  subst e0 e1 e2; unfold partition; simp only [h, if_true]
theorem partition_f {pv i1 j1 : Nat} {d0 : Array UInt32} (e0 : swp d a pv = d0) (e1 : scanUp (fun x => lt32 x d0[a]!) d0 (b - 1) (a + 1) = i1) (e2 : scanDown (fun x => !lt32 x d0[a]!) d0 i1 (b - 1) = j1) (h : ¬ i1 > j1) {r : Nat × Array UInt32} (e3 : partLoop lt32 a (i1 + 1) (j1 - 1) (swp d0 i1 j1) = r) : partition lt32 d a b pv = (r.1, false, swp r.2 r.1 a) := by
  subst e0 e1 e2 e3; unfold partition; simp only [h, if_false]
theorem sorted_step (h : i < b) (h2 : lt32 d[i]! d[i - 1]! = false) : scanSorted lt32 d b i = scanSorted lt32 d b (i + 1) := by rw [scanSorted, if_pos (by simp [h, h2])]
theorem sorted_stop (h : i < b → lt32 d[i]! d[i - 1]! = true) : scanSorted lt32 d b i = i := by
  rw [scanSorted, if_neg]
  intro hh
  simp only [Bool.and_eq_true, decide_eq_true_eq, Bool.not_eq_true'] at hh
  rw [h hh.1] at hh; cases hh.2
theorem sdown_step (h : 1 ≤ j) (h2 : lt32 d[j]! d[j - 1]! = true) : shiftDown lt32 j d = shiftDown lt32 (j - 1) (swp d j (j - 1)) := by
  obtain ⟨k, rfl⟩ : ∃ k, j = k + 1 := ⟨j - 1, by omega⟩
  rw [Nat.add_sub_cancel] at h2 ⊢
  rw [shiftDown, if_neg (by simp [h2])]
theorem sdown_stop (h : 1 ≤ j → lt32 d[j]! d[j - 1]! = false) : shiftDown lt32 j d = d := by
  cases j with
  | zero => rfl
  | succ k =>
    have := h (by omega)
    rw [Nat.add_sub_cancel] at this
    rw [shiftDown, if_pos (by simp [this])]
theorem sup_step (h : j < b) (h2 : lt32 d[j]! d[j - 1]! = true) : shiftUp lt32 b j d = shiftUp lt32 b (j + 1) (swp d j (j - 1)) := by rw [shiftUp, if_pos h, if_neg (by simp [h2])]
theorem sup_stop (h : j < b → lt32 d[j]! d[j - 1]! = false) : shiftUp lt32 b j d = d := by
  rw [shiftUp]
  split
  · rename_i hb; rw [if_pos (by simp [h hb])]
  · rfl
theorem pins_t {s i2 : Nat} (e : scanSorted lt32 d b i = i2) (h : i2 = b) : partialIns lt32 a b (s + 1) i d = (d, true) := by subst e; rw [partialIns]; simp only [h, if_true]
theorem pins_f {s i2 : Nat} (e : scanSorted lt32 d b i = i2) (h : ¬ i2 = b) (h2 : b - a < 50) : partialIns lt32 a b (s + 1) i d = (d, false) := by subst e; rw [partialIns]; simp only [h, h2, if_true, if_false]
theorem pins_s {s i2 : Nat} {d2 d3 : Array UInt32} (e : scanSorted lt32 d b i = i2) (h : ¬ i2 = b) (h2 : ¬ b - a < 50) (e2 : (if i2 - a ≥ 2 then shiftDown lt32 (i2 - 1) (swp d i2 (i2 - 1)) else swp d i2 (i2 - 1)) = d2) (e3 : (if b - i2 ≥ 2 then shiftUp lt32 b (i2 + 1) d2 else d2) = d3) :
    partialIns lt32 a b (s + 1) i d = partialIns lt32 a b s i2 d3 := by subst e e2 e3; rw [partialIns]; simp only [h, h2, if_false]
end
/-! words -/
theorem wu64 (n : Nat) : IntKind.u64.wrap (n : Int) = ((UInt64.ofNat n).toNat : Int) := by simp [IntKind.wrap, IntKind.bits, IntKind.signed]
theorem bv64 (a : UInt64) : BitVec.ofInt IntKind.u64.bits (a.toNat : Int) = a.toBitVec := by
  show BitVec.ofInt 64 _ = _
  apply BitVec.eq_of_toNat_eq; simp
theorem back64 (x : BitVec 64) : IntKind.u64.wrap (x.toNat : Int) = ((⟨x⟩ : UInt64).toNat : Int) := by
  rw [wu64]; congr 1; show (UInt64.ofNat x.toNat).toNat = x.toNat; simp
theorem bxor64 (a b : UInt64) : bits .xor .u64 (a.toNat : Int) (b.toNat : Int) = ((a ^^^ b).toNat : Int) := by unfold bits; simp only [bv64]; exact back64 _
theorem band64 (a b : UInt64) : bits .and .u64 (a.toNat : Int) (b.toNat : Int) = ((a &&& b).toNat : Int) := by unfold bits; simp only [bv64]; exact back64 _
section
variable {P : Program} {r : Option Nat} {g : World} {Γ : Env} {L M : List HP} {dst : Option Tmp} {t : TypeId} {pos : String} {aft : Array Edge} {gd : Option (Nat × Bool)} {x y : Operand} {xt yt : TypeId} {a b : UInt64}
theorem e_xor64 (hx : ev Γ x = some (.int .u64 a.toNat) := by rfl) (hy : ev Γ y = some (.int .u64 b.toNat) := by rfl) : EO P g ⟨dst, .binOp .xor xt x y yt, t, pos, aft, gd⟩ Γ L (.int .u64 (a ^^^ b).toNat) := e_bits (by simp) hx hy (bxor64 a b)
theorem e_and64 {m : Nat} (hm : m < 18446744073709551616) (hx : ev Γ x = some (.int .u64 a.toNat) := by rfl) (hy : ev Γ y = some (.int .u64 (m : Nat)) := by rfl) : EO P g ⟨dst, .binOp .and xt x y yt, t, pos, aft, gd⟩ Γ L (.int .u64 ((a.toNat &&& m : Nat) : Int)) :=
  e_bits (by simp) hx hy (by
    have h : (UInt64.ofNat m).toNat = m := by rw [UInt64.toNat_ofNat']; exact Nat.mod_eq_of_lt hm
    rw [← h, band64, UInt64.toNat_and])
theorem e_shl64 {k' : IntKind} {m : UInt64} (hm : m.toNat < 64) (hx : ev Γ x = some (.int .u64 a.toNat) := by rfl) (hy : ev Γ y = some (.int k' m.toNat) := by rfl) : EO P g ⟨dst, .binOp .shl xt x y yt, t, pos, aft, gd⟩ Γ L (.int .u64 (a <<< m).toNat) :=
  e_shl hx hy (by omega) (by simp [IntKind.bits]; omega) (by
    rw [UInt64.toNat_shiftLeft, Nat.mod_eq_of_lt hm, Nat.shiftLeft_eq]; simp [IntKind.wrap, IntKind.bits, IntKind.signed])
theorem e_shr64 {k' : IntKind} {m : UInt64} (hm : m.toNat < 64) (hx : ev Γ x = some (.int .u64 a.toNat) := by rfl) (hy : ev Γ y = some (.int k' m.toNat) := by rfl) : EO P g ⟨dst, .binOp .shr xt x y yt, t, pos, aft, gd⟩ Γ L (.int .u64 (a >>> m).toNat) :=
  e_shr hx hy (by omega) (by simp [IntKind.bits]; omega) (by rw [UInt64.toNat_shiftRight, Nat.mod_eq_of_lt hm, Nat.shiftRight_eq_div_pow]; simp)
end
theorem tab_all (s : ByteArray) (h : ((List.range 256).all fun i => s[i]? == some (UInt8.ofNat (bitsLen i))) = true) {i : Nat} (hi : i < 256) : s[i]? = some (UInt8.ofNat (bitsLen i)) := by
  have := List.all_eq_true.1 h i (List.mem_range.2 hi)
  simpa using this
theorem log2_shr : ∀ (k x : Nat), 2 ^ k ≤ x → Nat.log2 x = k + Nat.log2 (x / 2 ^ k)
  | 0, x, _ => by simp
  | k + 1, x, h => by
    have h2 : 2 ≤ x := Nat.le_trans (by rw [Nat.pow_succ]; have := Nat.one_le_two_pow (n := k); omega) h
    have h3 : 2 ^ k ≤ x / 2 := by rw [Nat.pow_succ] at h; omega
    rw [Nat.log2_def, if_pos h2, log2_shr k (x / 2) h3, Nat.div_div_eq_div_mul, Nat.pow_succ, Nat.mul_comm 2]
    omega
theorem bitsLen_shr (k x : Nat) (h : 2 ^ k ≤ x) : bitsLen x = k + bitsLen (x / 2 ^ k) := by
  have h0 : 0 < 2 ^ k := Nat.two_pow_pos k
  have h1 : 0 < x / 2 ^ k := Nat.div_pos h h0
  unfold bitsLen
  rw [if_neg (by omega), if_neg (by omega), log2_shr k x h]; omega
theorem bitsLen_lt {k x : Nat} (h : x < 2 ^ k) : bitsLen x ≤ k := by
  unfold bitsLen
  split
  · exact Nat.zero_le _
  · rename_i h0; have := (Nat.log2_lt h0).2 h; omega
theorem bitsLen_pow {x : Nat} (h : 0 < x) : 2 ^ bitsLen x ≤ 2 * x := by
  unfold bitsLen
  rw [if_neg (by omega), Nat.pow_succ]
  have := Nat.log2_self_le (n := x) (by omega)
  omega
section
variable {d : Array UInt32} {a b i j : Nat}
/-- So many rounds of breakPatterns. -/
def brk (a n m : Nat) (st : UInt64 × Array UInt32) (i : Nat) : Nat → UInt64 × Array UInt32
  | 0 => st
  | k + 1 => breakStep a n m (brk a n m st i k) (i + k)
theorem brk_eq (h : b - a ≥ 8) : breakPatterns d a b = (brk a (b - a) (2 ^ bitsLen (b - a)) (UInt64.ofNat (b - a), d) (a + (b - a) / 4 * 2 - 1) 3).2 := by
  unfold breakPatterns
  simp only [h, if_true, Nat.shiftLeft_eq, Nat.one_mul]; rfl
theorem brk_no (h : ¬ b - a ≥ 8) : breakPatterns d a b = d := by unfold breakPatterns; simp only [h, if_false]
theorem sort_done {xs : List UInt32} {d' : Array UInt32} (p1 : PermIn 0 xs.length xs.toArray d') (p2 : SortedIn lt32 0 xs.length d') : d'.toList.Perm xs ∧ d'.toList.Pairwise fun x y => x ≤ y := by
  have hsz : d'.size = xs.length := by rw [p1.1]; simp
  constructor
  · have h := p1.2.2
    rw [← hsz, Array.extract_size] at h
    have e : (xs.toArray.extract 0 d'.size).toList = xs := by rw [hsz]; simp
    rw [e] at h; exact h
  · rw [List.pairwise_iff_getElem]
    intro i j hi hj hij
    rw [Array.length_toList] at hi hj
    have := p2 i j (Nat.zero_le _) hij (by omega)
    rw [getElem!_pos d' i (by omega), getElem!_pos d' j (by omega)] at this
    simp only [Array.getElem_toList]
    simp only [lt32, decide_eq_false_iff_not] at this
    exact UInt32.not_lt.1 this
theorem sorted_eq : ∀ {a b : List UInt32}, a.Perm b → (a.Pairwise fun x y => x ≤ y) → (b.Pairwise fun x y => x ≤ y) → a = b
  | [], b, h, _, _ => (List.nil_perm.1 h).symm
  | x :: a, [], h, _, _ => by have := h.length_eq; simp at this
  | x :: a, y :: b, h, h1, h2 => by
    obtain ⟨p1, p2⟩ := List.pairwise_cons.1 h1
    obtain ⟨q1, q2⟩ := List.pairwise_cons.1 h2
    have e : x = y := by
      have hx : x ∈ y :: b := h.mem_iff.1 (by simp)
      have hy : y ∈ x :: a := h.mem_iff.2 (by simp)
      rcases List.mem_cons.1 hx with hx | hx
      · exact hx
      · rcases List.mem_cons.1 hy with hy | hy
        · exact hy.symm
        · exact UInt32.le_antisymm (p1 y hy) (q1 x hx)
    subst e
    rw [sorted_eq ((List.perm_cons x).1 h) p2 q2]
end
end Go.SL
/- Who waits for whom, in plain Lean; maps of slices by numbers. -/
set_option linter.unusedSimpArgs false
set_option linter.unusedVariables false
set_option linter.unusedSectionVars false
namespace Go.SL
open Go Go.Proofs
section
variable {α : Type}
theorem ents_keyU {E z : Nat} {enc : α → List Value} {es : List (EntV UInt32 α)} (k : UInt32) : RL (Ents E z enc es) z enc (svE es k).v (wsE es k) := by
  cases hf : findE es k with
  | none =>
    unfold svE wsE
    rw [hf]
    exact nil_rl
  | some e =>
    unfold svE wsE
    rw [hf]
    exact ents_rl (findE_key hf).1
theorem wsE_set (es : List (EntV UInt32 α)) (k : UInt32) (sv : SV) (ws : List α) (j : UInt32) : wsE (setE es k sv ws) j = if j = k then ws else wsE es j := by
  rw [wsE_st, setE_st, setS_get, wsE_st]
  split <;> rfl
theorem findE_ws {es : List (EntV UInt32 α)} {k : UInt32} (h : findE es k = none) : wsE es k = [] := by unfold wsE; rw [h]
variable {P : Program} {g : World} {Γ : Env} {L M : List HP} {dst : Option Tmp} {t : TypeId} {pos : String} {aft : Array Edge} {gd : Option (Nat × Bool)}
theorem eu_look {m : Value} {d : TypeDesc} {kt : TypeId} {es : List (EntV UInt32 α)} {x i : Operand} {T e : TypeId} {k : UInt32} (ht : P.underlying T = some (.map kt e)) (hk : KeyOk P kt d eU32) (hz : (P.info? e).bind (·.zero) = some (.slice none 0 0)) (hx : ev Γ x = some m := by rfl) (hi : ev Γ i = some (.int .u32 k.toNat) := by rfl) (hp : Pick L (Mp eU32 m (es.map kvE)) M := by repeat first | exact .z | apply Pick.s) :
    EO P g ⟨dst, .lookup T x i false, t, pos, aft, gd⟩ Γ L (svE es k).v := mget_svE es k ▸ em_lookup ht hk hz mp_rdm hx hi hp
theorem eu_look2 {m : Value} {d : TypeDesc} {kt : TypeId} {es : List (EntV UInt32 α)} {x i : Operand} {T e : TypeId} {k : UInt32} (ht : P.underlying T = some (.map kt e)) (hk : KeyOk P kt d eU32) (hz : (P.info? e).bind (·.zero) = some (.slice none 0 0)) (hx : ev Γ x = some m := by rfl) (hi : ev Γ i = some (.int .u32 k.toNat) := by rfl) (hp : Pick L (Mp eU32 m (es.map kvE)) M := by repeat first | exact .z | apply Pick.s) :
    EO P g ⟨dst, .lookup T x i true, t, pos, aft, gd⟩ Γ L (.tuple #[(svE es k).v, .bool (findE es k).isSome]) := by
  have h := em_lookup2 (P := P) (g := g) (Γ := Γ) (dst := dst) (t := t) (pos := pos) (aft := aft) (gd := gd) (x := x) (i := i) (k := k) ht hk hz mp_rdm hx hi hp
  rw [mget_svE, mget_kvE] at h
  rw [show ((findE es k).map fun e => e.sv.v).isSome = (findE es k).isSome by cases findE es k <;> rfl] at h
  exact h
end
/-! the graph -/
def EdgeL (fs ts : List UInt32) (i : Nat) (x y : UInt32) : Prop := ∃ j, j < i ∧ fs[j]? = some x ∧ ts[j]? = some y
structure AllOk (es : List (EntV UInt32 UInt32)) (fs ts : List UInt32) (i : Nat) : Prop where
  mem : ∀ x y, y ∈ wsE es x ↔ EdgeL fs ts i x y
  len : ∀ x, (wsE es x).length ≤ i
theorem AllOk.init (fs ts : List UInt32) : AllOk [] fs ts 0 := ⟨fun x y => by simp [wsE, findE, EdgeL], fun x => by simp [wsE, findE]⟩
theorem AllOk.step {es : List (EntV UInt32 UInt32)} {fs ts : List UInt32} {i : Nat} (h : AllOk es fs ts i) {x y : UInt32} (hx : fs[i]? = some x) (hy : ts[i]? = some y) (sv : SV) : AllOk (setE es x sv (wsE es x ++ [y])) fs ts (i + 1) := by
  refine ⟨fun a b => ?_, fun a => ?_⟩
  · rw [wsE_set]
    have hE : EdgeL fs ts (i + 1) a b ↔ EdgeL fs ts i a b ∨ (a = x ∧ b = y) := by
      constructor
      · rintro ⟨j, hj, h1, h2⟩
        rcases Nat.lt_or_ge j i with hlt | hge
        · exact .inl ⟨j, hlt, h1, h2⟩
        · obtain rfl : j = i := by omega
          rw [hx] at h1; rw [hy] at h2; cases h1; cases h2
          exact .inr ⟨rfl, rfl⟩
      · rintro (⟨j, hj, h1, h2⟩ | ⟨rfl, rfl⟩)
        · exact ⟨j, by omega, h1, h2⟩
        · exact ⟨i, by omega, hx, hy⟩
    rw [hE, ← h.mem]
    by_cases e : a = x
    · subst e; rw [if_pos rfl]; simp
    · rw [if_neg e]; simp [e]
  · rw [wsE_set]
    have := h.len a; have := h.len x
    split
    · simp; omega
    · omega
theorem AllOk.nil {es : List (EntV UInt32 UInt32)} {fs ts : List UInt32} {i : Nat} (h : AllOk es fs ts i) {y : UInt32} (hf : findE es y = none) (sv : SV) : AllOk (setE es y sv []) fs ts i := by
  have e : ∀ a, wsE (setE es y sv []) a = wsE es a := fun a => by
    rw [wsE_set]
    split
    · rename_i e; rw [e, findE_ws hf]
    · rfl
  exact ⟨fun a b => by rw [e]; exact h.mem a b, fun a => by rw [e]; exact h.len a⟩
/-- Who was seen; who stands on the stack. -/
structure DfsOk (R : UInt32 → UInt32 → Prop) (whom : UInt32) (S N : List UInt32) (M : Nat) (ts : List UInt32) : Prop where
  nd : S.Nodup
  fst : whom ∈ S
  can : ∀ y ∈ S, Reach R whom y
  sub : ∀ y ∈ N, y ∈ S
  all : ∀ x ∈ S, x ∉ N → ∀ y, R x y → y ∈ S
  mu : (ts.filter fun y => decide (y ∉ S)).length + N.length ≤ M
/-- One of the stack is gone through. -/
structure DfsIn (R : UInt32 → UInt32 → Prop) (whom x : UInt32) (ws S N : List UInt32) (k M : Nat) (ts : List UInt32) : Prop where
  nd : S.Nodup
  fst : whom ∈ S
  can : ∀ y ∈ S, Reach R whom y
  sub : ∀ y ∈ N, y ∈ S
  xin : x ∈ S
  all : ∀ z ∈ S, z ∉ N → z ≠ x → ∀ y, R z y → y ∈ S
  part : ∀ y ∈ ws.take k, y ∈ S
  mu : (ts.filter fun y => decide (y ∉ S)).length + N.length ≤ M
theorem Reach.closed {R : UInt32 → UInt32 → Prop} {a : UInt32} {S : List UInt32} (ha : a ∈ S) (hc : ∀ x ∈ S, ∀ y, R x y → y ∈ S) {b : UInt32} (h : Reach R a b) : b ∈ S := by
  induction h with
  | refl => exact ha
  | tail _ h1 ih => exact hc _ ih _ h1
theorem DfsOk.init (R : UInt32 → UInt32 → Prop) (whom : UInt32) (ts : List UInt32) : DfsOk R whom [whom] [whom] (ts.length + 1) ts :=
  ⟨by simp, by simp, fun y hy => by simp at hy; subst hy; exact .refl, fun y h => h, fun x hx hn => absurd hx hn, by
    have := List.length_filter_le (fun y => decide (y ∉ [whom])) ts
    simp only [List.length_singleton]; omega⟩
theorem DfsOk.pop {R : UInt32 → UInt32 → Prop} {whom : UInt32} {S N : List UInt32} {M : Nat} {ts : List UInt32} (h : DfsOk R whom S N (M + 1) ts) {x : UInt32} (hx : N[N.length - 1]? = some x) (ws : List UInt32) : DfsIn R whom x ws S (N.take (N.length - 1)) 0 M ts := by
  have hlt := idx_lt hx
  refine ⟨h.nd, h.fst, h.can, fun y hy => h.sub y (List.mem_of_mem_take hy), h.sub x (List.mem_of_getElem? hx), fun z hz hn hne y hy => h.all z hz (fun hm => ?_) y hy, by simp, ?_⟩
  · have e : N = N.take (N.length - 1) ++ [x] := by
      have := take_snoc hx
      rw [show N.length - 1 + 1 = N.length by omega, List.take_length] at this; exact this
    rw [e] at hm
    rcases List.mem_append.1 hm with hm | hm
    · exact hn hm
    · simp at hm; exact hne hm
  · have := h.mu; rw [List.length_take]; omega
theorem DfsIn.old {R : UInt32 → UInt32 → Prop} {whom x : UInt32} {ws S N : List UInt32} {k M : Nat} {ts : List UInt32} (h : DfsIn R whom x ws S N k M ts) {y : UInt32} (hy : ws[k]? = some y) (hs : y ∈ S) : DfsIn R whom x ws S N (k + 1) M ts :=
  ⟨h.nd, h.fst, h.can, h.sub, h.xin, h.all, fun z hz => by
    rw [take_snoc hy] at hz
    rcases List.mem_append.1 hz with hz | hz
    · exact h.part z hz
    · simp at hz; subst hz; exact hs, h.mu⟩
theorem filter_less {ts S : List UInt32} {y : UInt32} (hy : y ∈ ts) (hs : y ∉ S) : (ts.filter fun z => decide (z ∉ S ++ [y])).length + 1 ≤ (ts.filter fun z => decide (z ∉ S)).length := by
  induction ts with
  | nil => cases hy
  | cons a ts ih =>
    have hle : (ts.filter fun z => decide (z ∉ S ++ [y])).length ≤ (ts.filter fun z => decide (z ∉ S)).length := by
      clear ih hy
      induction ts with
      | nil => simp
      | cons b ts ih =>
        simp only [List.filter_cons]
        by_cases h1 : b ∈ S
        · simp [h1]; simpa using ih
        · by_cases h2 : b = y
          · subst h2; simp [h1]; simp at ih; omega
          · simp [h1, h2]; simpa using ih
    simp only [List.filter_cons]
    by_cases e : a = y
    · subst e
      simp [hs]
      simpa using hle
    · have hy' : y ∈ ts := by rcases List.mem_cons.1 hy with h | h; exact absurd h.symm e; exact h
      have ih := ih hy'
      by_cases h1 : a ∈ S
      · simp [h1]; simpa using ih
      · simp [h1, e]; simpa using ih
theorem DfsIn.push {R : UInt32 → UInt32 → Prop} {whom x : UInt32} {ws S N : List UInt32} {k M : Nat} {ts : List UInt32} (h : DfsIn R whom x ws S N k M ts) {y : UInt32} (hy : ws[k]? = some y) (hs : y ∉ S) (hR : R x y) (ht : y ∈ ts) : DfsIn R whom x ws (S ++ [y]) (N ++ [y]) (k + 1) M ts := by
  refine ⟨?_, by simp [h.fst], fun z hz => ?_, fun z hz => ?_, by simp [h.xin], fun z hz hn hne w hw => ?_, fun z hz => ?_, ?_⟩
  · rw [List.nodup_append]
    exact ⟨h.nd, by simp, fun a ha b hb e => by simp at hb; subst hb; subst e; exact hs ha⟩
  · rcases List.mem_append.1 hz with hz | hz
    · exact h.can z hz
    · simp at hz; subst hz; exact (h.can x h.xin).tail hR
  · rcases List.mem_append.1 hz with hz | hz
    · exact List.mem_append_left _ (h.sub z hz)
    · exact List.mem_append_right _ hz
  · rcases List.mem_append.1 hz with hz | hz
    · exact List.mem_append_left _ (h.all z hz (fun hm => hn (List.mem_append_left _ hm)) hne w hw)
    · exact absurd (List.mem_append_right N hz) hn
  · rw [take_snoc hy] at hz
    rcases List.mem_append.1 hz with hz | hz
    · exact List.mem_append_left _ (h.part z hz)
    · exact List.mem_append_right _ hz
  · have := h.mu; have := filter_less ht hs
    rw [List.length_append, List.length_singleton]; omega
theorem DfsIn.done {R : UInt32 → UInt32 → Prop} {whom x : UInt32} {ws S N : List UInt32} {k M : Nat} {ts : List UInt32} (h : DfsIn R whom x ws S N k M ts) (hk : ws.length ≤ k) (hR : ∀ y, R x y → y ∈ ws) : DfsOk R whom S N M ts :=
  ⟨h.nd, h.fst, h.can, h.sub, fun z hz hn y hy => by
    by_cases e : z = x
    · subst e; exact h.part y (by rw [List.take_of_length_le hk]; exact hR y hy)
    · exact h.all z hz hn e y hy, h.mu⟩
theorem DfsOk.stop {R : UInt32 → UInt32 → Prop} {whom who : UInt32} {S N : List UInt32} {M : Nat} {ts : List UInt32} (h : DfsOk R whom S N M ts) (hN : N = []) : who ∈ S ↔ Reach R whom who :=
  ⟨h.can who, fun hr => hr.closed h.fst fun x hx y hy => h.all x hx (by rw [hN]; simp) y hy⟩
def seenV (y : UInt32) : UInt32 × Value := (y, .int .i64 1)
theorem mget_seen (S : List UInt32) (y : UInt32) : (mget (S.map seenV) y).getD (.int .i64 0) = .int .i64 (if y ∈ S then 1 else 0) := by
  unfold mget
  induction S with
  | nil => simp
  | cons a S ih =>
    simp only [List.map_cons, List.find?_cons, seenV]
    by_cases e : a = y
    · simp [e]
    · have : ¬ y = a := fun h => e h.symm
      simp only [e, decide_false]
      rw [ih]
      simp [this]
theorem mset_seen {S : List UInt32} {y : UInt32} (h : y ∉ S) : mset (S.map seenV) y (.int .i64 1) = (S ++ [y]).map seenV := by
  have h1 : midx (S.map seenV) y = none := by
    unfold midx
    rw [List.findIdx?_eq_none_iff]
    intro p hp
    obtain ⟨a, ha, rfl⟩ := List.mem_map.1 hp
    exact decide_eq_false fun e => by
      have e : a = y := e
      subst e; exact h ha
  simp [mset, h1, seenV]
section
variable {P : Program} {g : World} {Γ : Env} {L M : List HP} {dst : Option Tmp} {t : TypeId} {pos : String} {aft : Array Edge} {gd : Option (Nat × Bool)}
theorem eu_seen {m : Value} {d : TypeDesc} {kt : TypeId} {S : List UInt32} {x i : Operand} {T e : TypeId} {k : UInt32} (ht : P.underlying T = some (.map kt e)) (hk : KeyOk P kt d eU32) (hz : (P.info? e).bind (·.zero) = some (.int .i64 0)) (hx : ev Γ x = some m := by rfl) (hi : ev Γ i = some (.int .u32 k.toNat) := by rfl) (hp : Pick L (Mp eU32 m (S.map seenV)) M := by repeat first | exact .z | apply Pick.s) :
    EO P g ⟨dst, .lookup T x i false, t, pos, aft, gd⟩ Γ L (.int .i64 (if k ∈ S then 1 else 0)) := mget_seen S k ▸ em_lookup ht hk hz mp_rdm hx hi hp
end
end Go.SL
/- Locks: how they lie; two spans compared. -/
set_option linter.unusedSimpArgs false
set_option linter.unusedVariables false
set_option linter.unusedSectionVars false
namespace Go.SL
open Go Go.Proofs
def LockM.c (l : LockM) : List Value := [.string l.s.a, .string l.s.b, .bool l.alone]
theorem lockE : EncOk 3 LockM.c := ⟨fun _ => rfl, fun _ => rfl⟩
theorem mdel_kvE {κ α : Type} [DecidableEq κ] (es : List (EntV κ α)) (k : κ) : mdel (es.map kvE) k = (delE es k).map kvE := by
  unfold mdel midx delE
  induction es with
  | nil => rfl
  | cons e es ih =>
    simp only [List.map_cons, List.findIdx?_cons, List.eraseP_cons, kvE]
    by_cases h : e.key = k
    · simp [h]
    · simp only [h, decide_false, Bool.false_eq_true, if_false, cond_false]
      cases hm : List.findIdx? (fun p : κ × Value => decide (p.1 = k)) (es.map kvE) with
      | none => rw [hm] at ih; simp [ih, kvE]
      | some j => rw [hm] at ih; simp only [Option.map_some, List.eraseIdx_cons_succ, List.map_cons]; rw [← ih]; rfl
theorem delE_st (es : List (EntV UInt32 LockM)) (k : UInt32) : (delE es k).map stE = freeL (es.map stE) k := by
  unfold delE freeL
  induction es with
  | nil => rfl
  | cons e es ih =>
    simp only [List.map_cons, List.eraseP_cons, stE]
    by_cases h : e.key = k
    · simp [h]
    · simp only [h, decide_false, cond_false, List.map_cons, stE]; rw [← ih]
theorem Ents_del {κ α : Type} [DecidableEq κ] {E z : Nat} {enc : α → List Value} {es : List (EntV κ α)} {k : κ} {S : Piece} (h : Ents E z enc es S) : Ents E z enc (delE es k) S := stars_sublist (List.eraseP_sublist.map _) h
section
variable {P : Program} {g : World} {Γ : Env} {L M : List HP} {dst : Option Tmp} {t : TypeId} {pos : String} {aft : Array Edge} {gd : Option (Nat × Bool)}
theorem e_speql {T T2 s : TypeId} {b0 b1 : Nat} {x y : Operand} {a b : SpanM} (hT : P.underlying T = some (.struct #[⟨ "From", s, 0, false, "", "", b0⟩, ⟨ "To", s, 1, false, "", "", b1⟩])) (hs : P.underlying s = some .string)
    (hs1 : aggOf P s = some none) (hp : P.stoodInHeld T = false) (hm : P.eqGuardType P.depth T = false) (hx : ev Γ x = some a.v) (hy : ev Γ y = some b.v) :
    EO P g ⟨dst, .binOp .eql T x y T2, t, pos, aft, gd⟩ Γ L (.bool (eqS a b)) := e_bin hx hy fun w => by
  have hf : P.fieldsOf T = #[⟨ "From", s, 0, false, "", "", b0⟩, ⟨ "To", s, 1, false, "", "", b1⟩] := by unfold Program.fieldsOf; rw [hT]
  have hE : ∀ w, (Op.equalIn 10000 T (.agg #[.string a.a, .string a.b]) (.agg #[.string b.a, .string b.b])).run P w = .ok (eqS a b) w := fun w => by
    rw [show (10000 : Nat) = 9999 + 1 from rfl, run_equalIn_struct w 9999 T _ _ (by rw [hf]; exact hT) hp, hf]
    simp only [Op.eqFields, Sem.run_bind]
    rw [if_pos (by decide)]
    simp only [Sem.run_bind]
    rw [run_part1 hs1 _ 0 (.string a.a) rfl]
    simp only [Result.andThen_ok]
    rw [run_part1 hs1 _ 0 (.string b.a) rfl]
    simp only [Result.andThen_ok]
    rw [show (9999 : Nat) = 9998 + 1 from rfl, run_equalIn_string w 9998 s a.a b.a hs]
    simp only [Result.andThen_ok]
    unfold eqS sEq
    rw [← beq_toListBytes, ← beq_toListBytes]
    cases hk : a.a == b.a with
    | false => simp [hk]
    | true =>
      simp only [Bool.not_true, Bool.false_eq_true, if_false, Bool.true_and]
      rw [if_pos (by decide)]
      simp only [Sem.run_bind]
      rw [run_part1 hs1 _ 1 (.string a.b) rfl]
      simp only [Result.andThen_ok]
      rw [run_part1 hs1 _ 1 (.string b.b) rfl]
      simp only [Result.andThen_ok]
      rw [run_equalIn_string w 9998 s a.b b.b hs]
      simp only [Result.andThen_ok]
      rw [← beq_toListBytes]
      cases hv : a.b == b.b <;> simp [hv]
  show (do eqGuard .eql T x y (.agg #[.string a.a, .string a.b]) (.agg #[.string b.a, .string b.b]); binOp .eql T (.agg #[.string a.a, .string a.b]) (.agg #[.string b.a, .string b.b]) : Sem Value).run P w = _
  rw [Sem.run_bind, run_eqGuard_agg w .eql T x y _ _ hm]
  simp only [Result.andThen_ok]
  rw [run_eql_struct, hE]; rfl
end
/-! who has what, one behind the other -/
def othersL (n : UInt32) (es : List (EntV UInt32 LockM)) : List (UInt32 × LockM) := es.flatMap fun e => if e.key = n then [] else e.ws.map fun l => (e.key, l)
theorem others_mid (n : UInt32) (A B : List (EntV UInt32 LockM)) (e : EntV UInt32 LockM) : othersL n (A ++ e :: B) = othersL n A ++ ((if e.key = n then [] else e.ws.map fun l => (e.key, l)) ++ othersL n B) := by
  unfold othersL; rw [List.flatMap_append, List.flatMap_cons]
theorem others_app (n : UInt32) (A B : List (EntV UInt32 LockM)) : othersL n (A ++ B) = othersL n A ++ othersL n B := by unfold othersL; rw [List.flatMap_append]
theorem others_len (n : UInt32) (es : List (EntV UInt32 LockM)) : (othersL n es).length ≤ totL (es.map stE) := by
  unfold othersL totL
  induction es with
  | nil => simp
  | cons e es ih =>
    simp only [List.flatMap_cons, List.length_append, List.map_cons, List.sum_cons, stE]
    have : (if e.key = n then [] else e.ws.map fun l => (e.key, l)).length ≤ e.ws.length := by split <;> simp
    omega
theorem mem_others {n k : UInt32} {l : LockM} {es : List (EntV UInt32 LockM)} : (k, l) ∈ othersL n es ↔ k ≠ n ∧ ∃ ls, (k, ls) ∈ es.map stE ∧ l ∈ ls := by
  unfold othersL
  rw [List.mem_flatMap]
  constructor
  · rintro ⟨e, he, h⟩
    split at h
    · cases h
    · rename_i hne
      obtain ⟨l', hl', h2⟩ := List.mem_map.1 h
      cases h2
      exact ⟨hne, e.ws, List.mem_map.2 ⟨e, he, rfl⟩, hl'⟩
  · rintro ⟨h1, ls, h2, h3⟩
    obtain ⟨e, he, h4⟩ := List.mem_map.1 h2
    simp only [stE, Prod.mk.injEq] at h4
    obtain ⟨rfl, rfl⟩ := h4
    exact ⟨e, he, by rw [if_neg h1]; exact List.mem_map.2 ⟨l, h3, rfl⟩⟩
/-- Strictly ascending, with the same in it: the same. -/
theorem strict_eq {a b : List UInt32} (ha : a.Pairwise fun x y => x < y) (hb : b.Pairwise fun x y => x < y) (h : ∀ x, x ∈ a ↔ x ∈ b) : a = b := by
  have na : a.Nodup := List.nodup_iff_pairwise_ne.2 (ha.imp fun h e => by subst e; exact absurd h (UInt32.lt_irrefl _))
  have nb : b.Nodup := List.nodup_iff_pairwise_ne.2 (hb.imp fun h e => by subst e; exact absurd h (UInt32.lt_irrefl _))
  exact sorted_eq ((List.perm_ext_iff_of_nodup na nb).2 h) (ha.imp UInt32.le_of_lt) (hb.imp UInt32.le_of_lt)
theorem way_sorted {L : LkT} (hn : (L.map (·.1)).Nodup) (n : UInt32) (p : SpanM) (w : Bool) : (wayL L n p w).Pairwise fun x y => x < y := by
  have h1 : (wayL L n p w).Pairwise fun x y => decide (x ≤ y) = true := List.pairwise_mergeSort (fun a b c h1 h2 => by simp only [decide_eq_true_eq] at *; exact UInt32.le_trans h1 h2) (fun a b => by
    rcases UInt32.le_total a b with h | h <;> simp [h]) _
  have h2 : (wayL L n p w).Nodup := by
    unfold wayL
    exact (List.mergeSort_perm _ _).nodup_iff.2 (hn.sublist (List.filter_sublist.map _))
  refine (h1.and (List.nodup_iff_pairwise_ne.1 h2)).imp fun {x y} ⟨h3, h4⟩ => ?_
  exact UInt32.lt_of_le_of_ne (by simpa using h3) h4
end Go.SL
set_option linter.unusedSimpArgs false
set_option linter.unusedVariables false
namespace Go.SL.VQ
open Go Go.Proofs Go.SL
theorem a22 : aggOf Tryz.prog 22 = some none := by kernel_rfl
theorem k155 : callable Tryz.prog 155 = true := by kernel_rfl
theorem mixedOk : Tryz.prog.follows .mixedOrders = true := by kernel_rfl
theorem sl82 : slOf Tryz.prog 82 = some (22, 1, 4) := by kernel_rfl
theorem z22 : zeroOf Tryz.prog 22 = some [.int .u32 0] := by kernel_rfl
theorem zz3 : (Tryz.prog.info? 3).bind (·.zero) = some (.int .i64 0) := by kernel_rfl
theorem zz82 : (Tryz.prog.info? 82).bind (·.zero) = some (.slice none 0 0) := by kernel_rfl
end Go.SL.VQ
namespace Go.SL
open Go Go.Proofs VQ
set_option maxHeartbeats 2000000 in
theorem waits_spec {g : World} {A B : HP} {u v : Value} {fs ts : List UInt32} (hA : RL A 1 u32C u fs) (hB : RL B 1 u32C v ts) (hl : fs.length = ts.length) (hn : fs.length ≤ 68719476000) : Spec Tryz.prog g 155 [u, v] [A, B] fun K R => ∀ mb es, AllOk es fs ts fs.length → K (.map (some mb)) (Mp eU32 (.map (some mb)) (List.map kvE (es)) :: Ents 22 1 u32C (es) :: A :: B :: R) := by
  refine Spec.intro Tryz.func155 rfl Tryz.ntmps155 rfl fun R K hK => ?_
  refine WP.seq ?_
  refine WP.reg ?_
  refine WL.e e_assign ?_
  refine WL.next ?_
  refine WP.seq ?_
  refine WP.reg ?_
  refine WL.h (h_makeMapB (ek := eU32) fun mb => ?_)
  refine WL.e e_assign ?_
  refine WL.next ?_
  refine WP.seq ?_
  refine WP.seq ?_
  refine WP.reg ?_
  refine WL.e e_move ?_
  refine WL.e (el_len (xs := fs) sl82 hA) <| WL.e e_move ?_
  refine WL.next ?_
  refine WP.block ?_
  refine WP.conv (fun S h => Ents_nil (κ := UInt32) (E := 22) (z := 1) (enc := u32C) h) ?_
  refine WP.loopK (fun (x : Nat × List (EntV UInt32 UInt32)) => [(13, .int .i64 x.1)]) (fun (x : Nat × List (EntV UInt32 UInt32)) => Ents 22 1 u32C (x.2) :: Mp eU32 (.map (some mb)) (List.map kvE (x.2)) :: A :: B :: R) [(1, _), (4, _), (5, _), (11, _), (12, _)] (fun (x : Nat × List (EntV UInt32 UInt32)) => x.1 ≤ fs.length ∧ AllOk x.2 fs ts x.1) (fun (x : Nat × List (EntV UInt32 UInt32)) => fs.length - x.1) (0, []) (⟨Nat.zero_le _, AllOk.init _ _⟩) ?_
  rintro ⟨i, es⟩ ⟨hi, hO⟩
  simp only at hi hO
  dsimp only
  refine WP.seq ?_
  refine WP.reg ?_
  refine WL.e e_lss ?_
  refine WL.next ?_
  refine WP.seq ?_
  refine WP.cond rfl (fun h1 => ?_) (fun h1 => ?_)
  · have hlt : i < fs.length := by rw [decide_eq_true_eq] at h1; omega
    obtain ⟨x, hx⟩ : ∃ x, fs[i]? = some x := ⟨_, List.getElem?_eq_getElem hlt⟩
    obtain ⟨y, hy⟩ : ∃ y, ts[i]? = some y := ⟨_, List.getElem?_eq_getElem (by omega)⟩
    have hwl := hO.len x
    refine WP.opn (Ents_take es x) fun _ => ?_
    refine WP.skip ?_
    refine PO.next ?_
    refine WP.seq ?_
    refine WP.block ?_
    refine WP.seq ?_
    refine WP.reg ?_
    refine WL.e e_move ?_
    refine WL.e (el_ia (j := i) (xs := fs) sl82 hA hlt) ?_
    refine WL.e (el_load0 (j := i) (a := x) a22 u32E hA hx) <| WL.e e_assign <| WL.e e_assign ?_
    refine WL.next ?_
    refine WP.seq ?_
    refine WP.draws mixedOk 12 ?_
    refine RW.e 0 rfl e_move <| RW.e 1 rfl e_move <| RW.e 2 rfl e_move <| RW.e 3 rfl e_move ?_
    refine RW.e 4 rfl (eu_look (k := x) (es := es) Tryz.underlying254 (key_u32 Tryz.underlying22) zz82) <| RW.e 5 rfl e_move <| RW.e 6 rfl e_move ?_
    refine RW.e 7 rfl (el_ia (j := i) (xs := ts) sl82 hB (by omega)) ?_
    refine RW.e 8 rfl (el_load0 (j := i) (a := y) a22 u32E hB hy) ?_
    refine RW.any (is := [9]) rfl ⟨?_, trivial⟩
    refine RWat.h rfl rfl rfl ?_
    refine (h_bs sl82 z22 (.o (.tmp 26) rfl <| .n) fun b1 => ?_)
    refine ⟨⟨⟨_, rfl, .inl ⟨rfl, (eu_look (k := x) (es := es) Tryz.underlying254 (key_u32 Tryz.underlying22) zz82)⟩⟩, ⟨_, rfl, .inl ⟨rfl, e_move⟩⟩, ⟨_, rfl, .inl ⟨rfl, e_move⟩⟩, ⟨_, rfl, .inl ⟨rfl, e_move⟩⟩, ⟨_, rfl, .inl ⟨rfl, e_move⟩⟩, trivial⟩, ?_⟩
    refine RW.any (is := [10]) rfl ⟨?_, trivial⟩
    refine RWat.h rfl rfl rfl ?_
    refine (hl_append (xs := wsE es x) (ys := [y]) sl82 u32E z22 (lit_rl u32E [y] rfl) (by simp; omega) (fun a5 n5 c5 => ?_))
    refine ⟨⟨⟨_, rfl, .inl ⟨rfl, e_move⟩⟩, ⟨_, rfl, .inl ⟨rfl, e_move⟩⟩, trivial⟩, ?_⟩
    refine RW.any (is := [11]) rfl ⟨?_, trivial⟩
    refine RWat.h' rfl rfl rfl ?_
    refine (h_mapUpdate (k := x) (kvs := List.map kvE es) Tryz.underlying254 (key_u32 Tryz.underlying22) ?_)
    rw [show mset (List.map kvE es) x (.slice a5 n5 c5) = List.map kvE (setE es x ⟨a5, n5, c5⟩ (wsE es x ++ [y])) from mset_kvE es x ⟨a5, n5, c5⟩ _]
    have hO2 := hO.step hx hy ⟨a5, n5, c5⟩
    refine ⟨trivial, ?_⟩
    refine RW.done ?_
    refine PO.next ?_
    refine WP.seq ?_
    refine WP.reg ?_
    refine WL.e e_move <| WL.e e_move <| WL.e e_move ?_
    refine WL.e (el_ia (j := i) (xs := ts) sl82 hB (by omega)) ?_
    refine WL.e (el_load0 (j := i) (a := y) a22 u32E hB hy) ?_
    refine WL.e (eu_look2 (k := y) (es := (setE es x ⟨a5, n5, c5⟩ (wsE es x ++ [y]))) Tryz.underlying254 (key_u32 Tryz.underlying22) zz82) <| WL.e e_move <| WL.e e_extract <| WL.e e_extract <| WL.e e_assign <| WL.e e_assign ?_
    refine WL.next ?_
    refine WP.seq ?_
    refine WP.reg ?_
    refine WL.e e_move <| WL.e e_not ?_
    refine WL.next ?_
    refine WP.cond rfl (fun h6 => ?_) (fun h6 => ?_)
    · replace h6 : findE (setE es x ⟨a5, n5, c5⟩ (wsE es x ++ [y])) y = none := by cases e : findE (setE es x ⟨a5, n5, c5⟩ (wsE es x ++ [y])) y with
        | none => rfl
        | some z => rw [e] at h6; cases h6
      refine WP.reg ?_
      refine WL.e e_move <| WL.e e_move <| WL.e e_move ?_
      refine WL.e (el_ia (j := i) (xs := ts) sl82 hB (by omega)) ?_
      refine WL.e (el_load0 (j := i) (a := y) a22 u32E hB hy) ?_
      refine WL.h' (h_mapUpdate (k := y) (kvs := List.map kvE (setE es x ⟨a5, n5, c5⟩ (wsE es x ++ [y]))) Tryz.underlying254 (key_u32 Tryz.underlying22) ?_)
      rw [show mset (List.map kvE (setE es x ⟨a5, n5, c5⟩ (wsE es x ++ [y]))) y (.slice none 0 0) = List.map kvE (setE (setE es x ⟨a5, n5, c5⟩ (wsE es x ++ [y])) y ⟨none, 0, 0⟩ []) from mset_kvE (setE es x ⟨a5, n5, c5⟩ (wsE es x ++ [y])) y ⟨none, 0, 0⟩ []]
      refine WL.nil ?_
      refine PO.blockN ?_
      refine PO.next ?_
      refine WP.reg ?_
      refine WL.e (e_add rfl rfl (w_i64 (by omega) (by omega))) <| WL.e e_move ?_
      refine WL.nil ?_
      refine PO.cls (A := Ents 22 1 u32C ((setE es x ⟨a5, n5, c5⟩ (wsE es x ++ [y])))) (B := [Sl 22 1 u32C (.slice a5 n5 c5) (wsE es x ++ [y]), Ents 22 1 u32C (delE es x)]) (Ents_put es x ⟨a5, n5, c5⟩ (wsE es x ++ [y])) ?_
      refine PO.conv (conv1 (A := Ents 22 1 u32C ((setE es x ⟨a5, n5, c5⟩ (wsE es x ++ [y])))) (B := Ents 22 1 u32C (delE (setE es x ⟨a5, n5, c5⟩ (wsE es x ++ [y])) y)) (fun S h => by rw [(delE_none h6).1]; exact h) (by repeat first | exact .z | apply Put.s)) ?_
      refine PO.nils 22 1 u32C none ?_
      refine PO.cls (A := Ents 22 1 u32C (setE (setE es x ⟨a5, n5, c5⟩ (wsE es x ++ [y])) y ⟨none, 0, 0⟩ [])) (B := [Sl 22 1 u32C (.slice none 0 0) [], Ents 22 1 u32C (delE (setE es x ⟨a5, n5, c5⟩ (wsE es x ++ [y])) y)]) (Ents_put (setE es x ⟨a5, n5, c5⟩ (wsE es x ++ [y])) y ⟨none, 0, 0⟩ []) ?_
      exact PO.againK (i + 1, setE (setE es x ⟨a5, n5, c5⟩ (wsE es x ++ [y])) y ⟨none, 0, 0⟩ []) ⟨by simp only; omega, hO2.nil h6 _⟩ (by simp only; omega)
    · skip
      refine WP.skip ?_
      refine PO.blockN ?_
      refine PO.next ?_
      refine WP.reg ?_
      refine WL.e (e_add rfl rfl (w_i64 (by omega) (by omega))) <| WL.e e_move ?_
      refine WL.nil ?_
      refine PO.cls (A := Ents 22 1 u32C ((setE es x ⟨a5, n5, c5⟩ (wsE es x ++ [y])))) (B := [Sl 22 1 u32C (.slice a5 n5 c5) (wsE es x ++ [y]), Ents 22 1 u32C (delE es x)]) (Ents_put es x ⟨a5, n5, c5⟩ (wsE es x ++ [y])) ?_
      exact PO.againK (i + 1, (setE es x ⟨a5, n5, c5⟩ (wsE es x ++ [y]))) ⟨by simp only; omega, hO2⟩ (by simp only; omega)
  · obtain rfl : i = fs.length := by rw [decide_eq_false_iff_not] at h1; omega
    refine WP.exit ?_
    refine PO.past nofun ?_
    refine PO.round nofun ?_
    refine PO.blockX ?_
    refine PO.next ?_
    refine WP.seq ?_
    refine WP.reg ?_
    refine WL.e e_move <| WL.e e_assign ?_
    refine WL.next ?_
    refine WP.ret ?_
    exact PO.fin Tryz.results155 (rv_tmp rv_nil) (hK mb es hO)
set_option maxHeartbeats 4000000 in
theorem Closes_spec {g : World} {A B : HP} {u v : Value} {fs ts : List UInt32} (who whom : UInt32) (hA : RL A 1 u32C u fs) (hB : RL B 1 u32C v ts) (hl : fs.length = ts.length) (hn : fs.length ≤ 68719476000) : Spec Tryz.prog g 118 [u, v, .int .u32 who.toNat, .int .u32 whom.toNat] [A, B] fun K R => ∀ b, (b = true ↔ Reach (EdgeL fs ts fs.length) whom who) → K (.tuple #[.bool b, .int .i64 0]) (A :: B :: R) := by
  refine Spec.intro Tryz.func118 rfl Tryz.ntmps118 rfl fun R K hK => ?_
  refine WP.seq ?_
  refine WP.reg ?_
  refine WL.e e_assign <| WL.e e_assign ?_
  refine WL.next ?_
  refine WP.scope ?_
  refine WP.seq ?_
  refine WP.seq ?_
  refine WP.reg ?_
  refine WL.e e_move ?_
  refine WL.e (el_len (xs := fs) sl82 hA) <| WL.e e_move ?_
  refine WL.e (el_len (xs := ts) sl82 hB) <| WL.e e_neq ?_
  refine WL.next ?_
  refine WP.cond rfl (fun h0 => ?_) (fun h0 => ?_)
  · (simp at h0; omega)
  · skip
    refine WP.skip ?_
    refine PO.next ?_
    refine WP.seq ?_
    refine WP.reg ?_
    refine WL.e e_move <| WL.e e_move ?_
    refine WL.h (h_call (waits_spec hA hB hl hn) k155 ?_)
    intro mb es hO
    refine WL.e e_assign ?_
    refine WL.next ?_
    refine WP.seq ?_
    refine WP.reg ?_
    refine WL.h (h_makeMapB (ek := eU32) fun sm => ?_)
    refine WL.e e_move ?_
    refine WL.h' (h_insert (k := whom) (kvs := ([] : List (UInt32 × Value))) Tryz.underlying256 (key_u32 Tryz.underlying22) ?_)
    refine WL.e e_move <| WL.e e_assign ?_
    refine WL.next ?_
    refine WP.seq ?_
    refine WP.reg ?_
    refine WL.e e_move ?_
    refine WL.h (h_bs sl82 z22 (.o (.tmp 27) rfl <| .n) fun b1 => ?_)
    refine WL.e e_assign ?_
    refine WL.next ?_
    refine WP.seq ?_
    refine WP.label ?_
    refine PO.next ?_
    refine WP.seq ?_
    refine WP.block ?_
    refine WP.conv (conv1 (A := cl b1 22 [.int .u32 whom.toNat]) (B := Sl 22 1 u32C (.slice (some ⟨b1, 0, none⟩) 1 1) ([whom])) (lit_own u32E [whom] rfl rfl (by decide)) (by repeat first | exact .z | apply Put.s)) ?_
    refine WP.loopK (fun (x : List UInt32 × SV × List UInt32 × Nat) => [(12, x.2.1.v)]) (fun (x : List UInt32 × SV × List UInt32 × Nat) => Sl 22 1 u32C (x.2.1.v) (x.2.2.1) :: Mp eU32 (.map (some sm)) (List.map seenV (x.1)) :: Mp eU32 (.map (some mb)) (List.map kvE (es)) :: Ents 22 1 u32C (es) :: A :: B :: R) [(2, _), (8, _), (9, _), (10, _), (11, _)] (fun (x : List UInt32 × SV × List UInt32 × Nat) => DfsOk (EdgeL fs ts fs.length) whom x.1 x.2.2.1 x.2.2.2 ts ∧ x.2.2.2 ≤ ts.length + 1) (fun (x : List UInt32 × SV × List UInt32 × Nat) => x.2.2.2) ([whom], ⟨some ⟨b1, 0, none⟩, 1, 1⟩, [whom], ts.length + 1) (⟨DfsOk.init _ _ _, Nat.le_refl _⟩) ?_
    rintro ⟨S, w, N, M⟩ ⟨hD, hM⟩
    simp only at hD hM
    dsimp only
    refine WP.seq ?_
    refine WP.seq ?_
    refine WP.reg ?_
    refine WL.e e_move ?_
    refine WL.e (el_len (xs := N) sl82 sl_rl) <| WL.e e_gtr ?_
    refine WL.next ?_
    refine WP.cond rfl (fun h1 => ?_) (fun h1 => ?_)
    · have hlt : 0 < N.length := by rw [decide_eq_true_eq] at h1; omega
      obtain ⟨xx, hx⟩ : ∃ x, N[N.length - 1]? = some x := ⟨_, List.getElem?_eq_getElem (by omega)⟩
      have hmu := hD.mu
      have hNl : N.length ≤ ts.length + 1 := by omega
      obtain ⟨M1, rfl⟩ : ∃ k, M = k + 1 := ⟨M - 1, by omega⟩
      have hI := hD.pop hx (wsE es xx)
      refine WP.skip ?_
      refine PO.next ?_
      refine WP.block ?_
      refine WP.seq ?_
      refine WP.reg ?_
      refine WL.e e_move <| WL.e e_move ?_
      refine WL.e (el_len (xs := N) sl82 sl_rl) <| WL.e (e_sub (c := ((N.length - 1 : Nat) : Int)) rfl rfl (by rw [w_i64 (by omega) (by omega)]; omega)) ?_
      refine WL.e (el_ia (j := N.length - 1) (xs := N) sl82 sl_rl (by omega)) ?_
      refine WL.e (el_load0 (j := N.length - 1) (a := xx) a22 u32E sl_rl hx) <| WL.e e_assign ?_
      refine WL.next ?_
      refine WP.seq ?_
      refine WP.reg ?_
      refine WL.e e_move <| WL.e e_move ?_
      refine WL.e (el_len (xs := N) sl82 sl_rl) <| WL.e (e_sub (c := ((N.length - 1 : Nat) : Int)) rfl rfl (by rw [w_i64 (by omega) (by omega)]; omega)) ?_
      refine WL.e (el_to (hi := N.length - 1) (xs := N) sl82 sl_rl (by omega)) <| WL.e e_assign ?_
      refine WL.next ?_
      refine WP.seq ?_
      refine WP.seq ?_
      refine WP.reg ?_
      refine WL.e e_move <| WL.e e_move <| WL.e (e_eql32) ?_
      refine WL.next ?_
      refine WP.cond rfl (fun h2 => ?_) (fun h2 => ?_)
      · have hxw : xx = who := by simpa using h2
        have hwin : who ∈ S := hxw ▸ hI.xin
        have hst : who ∈ S ↔ Reach (EdgeL fs ts fs.length) whom who := ⟨hI.can who, fun _ => hwin⟩
        refine WP.exit ?_
        refine PO.past nofun ?_
        refine PO.blockY rfl ?_
        refine PO.round nofun ?_
        refine PO.blockX ?_
        refine PO.next ?_
        refine WP.seq ?_
        refine WP.reg ?_
        refine WL.e e_move <| WL.e e_move ?_
        refine WL.e (eu_seen (k := who) (S := S) Tryz.underlying256 (key_u32 Tryz.underlying22) zz3) <| WL.e e_gtr <| WL.e e_assign <| WL.e e_assign ?_
        refine WL.next ?_
        refine WP.ret ?_
        refine PO.scopeR ?_
        exact PO.fin Tryz.results118 (rv_tmp (rv_tmp rv_nil)) (hK _ (by rw [← hst]; by_cases e : who ∈ S <;> simp [e]))
      · skip
        refine WP.skip ?_
        refine PO.next ?_
        refine WP.seq ?_
        refine WP.reg ?_
        refine WL.e e_move <| WL.e e_move ?_
        refine WL.e (eu_look (k := xx) (es := es) Tryz.underlying254 (key_u32 Tryz.underlying22) zz82) ?_
        refine WL.e (el_len (xs := wsE es xx) sl82 (ents_keyU xx)) <| WL.e e_move ?_
        refine WL.next ?_
        refine WP.block ?_
        refine WP.conv (conv1 (A := Sl 22 1 u32C (w.v) (N)) (B := Sl 22 1 u32C (subV w.v 0 (N.length - 1) none 1) (N.take (N.length - 1))) (fun S h => sl_to u32E h (by omega)) (by repeat first | exact .z | apply Put.s)) ?_
        refine WP.sh (u := subV w.v 0 (N.length - 1) none 1) fun a8 n8 c8 e8 => ?_
        rw [e8]
        refine WP.loopK (fun (x : Nat × List UInt32 × SV × List UInt32) => [(50, .int .i64 x.1), (12, x.2.2.1.v)]) (fun (x : Nat × List UInt32 × SV × List UInt32) => Sl 22 1 u32C (x.2.2.1.v) (x.2.2.2) :: Mp eU32 (.map (some sm)) (List.map seenV (x.2.1)) :: Mp eU32 (.map (some mb)) (List.map kvE (es)) :: Ents 22 1 u32C (es) :: A :: B :: R) [(2, _), (8, _), (9, _), (10, _), (11, _), (13, _), (29, _), (30, _), (31, _), (32, _), (33, _), (34, _), (35, _), (36, _), (37, _), (38, _), (39, _), (40, _), (41, _), (42, _), (43, _), (44, _), (45, _), (46, _), (47, _), (48, _), (49, _)] (fun (x : Nat × List UInt32 × SV × List UInt32) => x.1 ≤ (wsE es xx).length ∧ DfsIn (EdgeL fs ts fs.length) whom xx (wsE es xx) x.2.1 x.2.2.2 x.1 M1 ts) (fun (x : Nat × List UInt32 × SV × List UInt32) => (wsE es xx).length - x.1) (0, S, ⟨a8, n8, c8⟩, N.take (N.length - 1)) (⟨Nat.zero_le _, hI⟩) ?_
        rintro ⟨k, S2, w2, N2⟩ ⟨hk, hI2⟩
        simp only at hk hI2
        dsimp only
        refine WP.seq ?_
        refine WP.reg ?_
        refine WL.e e_lss ?_
        refine WL.next ?_
        refine WP.seq ?_
        refine WP.cond rfl (fun h3 => ?_) (fun h3 => ?_)
        · have hlt2 : k < (wsE es xx).length := by rw [decide_eq_true_eq] at h3; omega
          obtain ⟨y, hy⟩ : ∃ y, (wsE es xx)[k]? = some y := ⟨_, List.getElem?_eq_getElem hlt2⟩
          have hRy := (hO.mem xx y).1 (List.mem_of_getElem? hy)
          have hyt : y ∈ ts := by obtain ⟨j, _, _, h⟩ := hRy; exact List.mem_of_getElem? h
          have hmu2 := hI2.mu
          have hwsl := hO.len xx
          refine WP.skip ?_
          refine PO.next ?_
          refine WP.seq ?_
          refine WP.block ?_
          refine WP.seq ?_
          refine WP.reg ?_
          refine WL.e (el_ia (j := k) (xs := wsE es xx) sl82 (ents_keyU xx) hlt2) ?_
          refine WL.e (el_load0 (j := k) (a := y) a22 u32E (ents_keyU xx) hy) <| WL.e e_assign ?_
          refine WL.next ?_
          refine WP.seq ?_
          refine WP.seq ?_
          refine WP.reg ?_
          refine WL.e e_move <| WL.e e_move ?_
          refine WL.e (eu_seen (k := y) (S := S2) Tryz.underlying256 (key_u32 Tryz.underlying22) zz3) <| WL.e e_gtr ?_
          refine WL.next ?_
          refine WP.cond rfl (fun h4 => ?_) (fun h4 => ?_)
          · have hin : y ∈ S2 := by by_cases e : y ∈ S2; exact e; rw [if_neg e] at h4; exact absurd h4 (by decide)
            refine WP.exit ?_
            refine PO.past nofun ?_
            refine PO.blockX ?_
            refine PO.next ?_
            refine WP.reg ?_
            refine WL.e (e_add rfl rfl (w_i64 (by omega) (by omega))) <| WL.e e_move ?_
            refine WL.nil ?_
            exact PO.againK (k + 1, S2, w2, N2) ⟨by simp only; omega, hI2.old hy hin⟩ (by simp only; omega)
          · have hin : y ∉ S2 := fun e => by rw [if_pos e] at h4; exact absurd h4 (by decide)
            refine WP.skip ?_
            refine PO.next ?_
            refine WP.seq ?_
            refine WP.reg ?_
            refine WL.e e_move <| WL.e e_move ?_
            refine WL.e (eu_seen (k := y) (S := S2) Tryz.underlying256 (key_u32 Tryz.underlying22) zz3) <| WL.e (e_add (c := 1) rfl rfl (by rw [if_neg hin]; rfl)) ?_
            refine WL.h' (h_mapUpdate (k := y) (kvs := List.map seenV S2) Tryz.underlying256 (key_u32 Tryz.underlying22) ?_)
            rw [mset_seen hin]
            refine WL.next ?_
            refine WP.reg ?_
            refine WL.e e_move <| WL.e e_move ?_
            refine WL.h (h_bs sl82 z22 (.o (.tmp 63) rfl <| .n) fun b2 => ?_)
            refine WL.h (hl_append (xs := N2) (ys := [y]) sl82 u32E z22 (lit_rl u32E [y] rfl) (by simp; omega) (fun a5 n5 c5 => ?_))
            refine WL.e e_assign ?_
            refine WL.nil ?_
            refine PO.blockN ?_
            refine PO.next ?_
            refine WP.reg ?_
            refine WL.e (e_add rfl rfl (w_i64 (by omega) (by omega))) <| WL.e e_move ?_
            refine WL.nil ?_
            exact PO.againK (k + 1, S2 ++ [y], ⟨a5, n5, c5⟩, N2 ++ [y]) ⟨by simp only; omega, hI2.push hy hin hRy hyt⟩ (by simp only; omega)
        · have hD2 := hI2.done (by rw [decide_eq_false_iff_not] at h3; omega) (fun y hy => (hO.mem xx y).2 hy)
          refine WP.exit ?_
          refine PO.past nofun ?_
          refine PO.round nofun ?_
          refine PO.blockX ?_
          refine PO.blockN ?_
          exact PO.againK (S2, w2, N2, M1) ⟨hD2, by simp only; omega⟩ (by simp only; omega)
    · have hN0 : N = [] := List.length_eq_zero_iff.1 (by rw [decide_eq_false_iff_not] at h1; omega)
      have hst := hD.stop (who := who) hN0
      refine WP.exit ?_
      refine PO.past nofun ?_
      refine PO.round nofun ?_
      refine PO.blockX ?_
      refine PO.next ?_
      refine WP.seq ?_
      refine WP.reg ?_
      refine WL.e e_move <| WL.e e_move ?_
      refine WL.e (eu_seen (k := who) (S := S) Tryz.underlying256 (key_u32 Tryz.underlying22) zz3) <| WL.e e_gtr <| WL.e e_assign <| WL.e e_assign ?_
      refine WL.next ?_
      refine WP.ret ?_
      refine PO.scopeR ?_
      exact PO.fin Tryz.results118 (rv_tmp (rv_tmp rv_nil)) (hK _ (by rw [← hst]; by_cases e : who ∈ S <;> simp [e]))
end Go.SL

/- The steps of the walk: copy into a slice that is owned. -/
import Derived.Test.YtdfomffmfnpfoaaGreatSLn
set_option linter.unusedSimpArgs false
set_option linter.unusedVariables false
set_option linter.unusedSectionVars false
namespace Go.SL
open Go

/-- A slice, as a value. -/
structure SV where
  a : Option Addr
  n : Nat
  c : Nat
@[reducible] def SV.v (s : SV) : Value := .slice s.a s.n s.c

@[reducible] def subS (s : SV) (lo hi z : Nat) : SV := ⟨if s.c = lo then s.a else s.a.map (·.add (lo * z)), hi - lo, s.c - lo⟩
theorem subS_eq (s : SV) (lo hi z : Nat) : (subS s lo hi z).v = subV s.v lo hi none z := rfl

/-- 'ys' laid over 'xs' from 'lo' on, as far as 'xs' goes. -/
def over {α : Type} (xs : List α) (lo : Nat) (ys : List α) : List α := xs.take lo ++ ys.take (xs.length - lo) ++ xs.drop (lo + ys.length)
theorem over_len {α : Type} (xs : List α) (lo : Nat) (ys : List α) (h : lo ≤ xs.length) : (over xs lo ys).length = xs.length := by
  simp [over]; omega
theorem flat_over {α : Type} {z : Nat} {enc : α → List Value} (he : EncOk z enc) (xs ys : List α) (lo : Nat) (h : lo ≤ xs.length) : splice (xs.flatMap enc) (lo * z) ((ys.take (Nat.min ys.length (xs.length - lo))).flatMap enc) = (over xs lo ys).flatMap enc := by
  obtain ⟨m, hm⟩ : ∃ m, Nat.min ys.length (xs.length - lo) = m := ⟨_, rfl⟩
  have hmy : m ≤ ys.length := hm ▸ Nat.min_le_left _ _
  have hmx : m ≤ xs.length - lo := hm ▸ Nat.min_le_right _ _
  have hl : (ys.take m).length = m := by simp; omega
  have h1 : (lo + m) * z ≤ xs.length * z := Nat.mul_le_mul_right _ (by omega)
  rw [Nat.add_mul] at h1
  rw [hm, splice_eq _ _ _ (by rw [flat_len he, flat_len he, hl]; exact h1), flat_len he, hl, flat_take he, ← Nat.add_mul, flat_drop he]
  simp only [over, List.flatMap_append]
  have e1 : ys.take (xs.length - lo) = ys.take m := by
    rcases Nat.le_total ys.length (xs.length - lo) with h' | h'
    · rw [List.take_of_length_le h', List.take_of_length_le (by rw [← hm]; exact Nat.le_of_eq (Nat.min_eq_left h').symm)]
    · rw [← hm]; congr 1; exact (Nat.min_eq_right h').symm
  have e2 : xs.drop (lo + ys.length) = xs.drop (lo + m) := by
    rcases Nat.le_total ys.length (xs.length - lo) with h' | h'
    · congr 2; rw [← hm]; exact (Nat.min_eq_left h').symm
    · have : m = xs.length - lo := hm ▸ Nat.min_eq_right h'
      rw [List.drop_eq_nil_of_le (by omega), List.drop_eq_nil_of_le (by omega)]
  rw [e1, e2]

theorem fold_splice : ∀ (vs : List Value) (cells : Array Value) (off k : Nat), ((vs.zipIdx k).foldl (fun cs (p : Value × Nat) => cs.setIfInBounds (off + p.2) p.1) cells).toList = splice cells.toList (off + k) vs
  | [], cells, off, k => rfl
  | v :: vs, cells, off, k => by
    rw [List.zipIdx_cons, List.foldl_cons, fold_splice vs _ off (k + 1), Array.toList_setIfInBounds]; rfl
theorem fill_step {pl : Nat → Option (Nat × Nat)} {cells : Array Value} {i off z : Nat} {v : Value} {rest : List (Nat × Value)} {vs : List Value} (hp : pl i = some (off, z)) (hv : v.cells = vs.toArray) (hz : vs.length = z) (hle : off + z ≤ cells.size) :
    Instr.fill pl cells ((i, v) :: rest) = Instr.fill pl (splice cells.toList off vs).toArray rest := by
  rw [Instr.fill]
  simp only [hp]
  rw [if_neg (by rw [hv]; simp [hz]; omega)]
  congr 1
  apply Array.ext'
  rw [List.toList_toArray]
  have := fold_splice vs cells off 0
  rw [Nat.add_zero] at this
  rw [← this, hv]
  rw [← Array.foldl_toList]; simp
theorem fill_nil {pl : Nat → Option (Nat × Nat)} {cells : Array Value} : Instr.fill pl cells [] = some cells := rfl
theorem splice_all (l vs : List Value) (h : vs.length = l.length) : splice l 0 vs = vs := by
  rw [splice_eq _ _ _ (by omega)]; simp [h]
theorem tm_any {Γ : Env} : ∀ l, Tm Γ l
  | [] => .n
  | v :: l => .z v (tm_any l)
section
variable {P : Program} {r : Option Nat} {g : World} {Γ : Env} {L M : List HP} {Q : Post} {dst : Option Tmp} {t : TypeId} {pos : String} {aft : Array Edge} {gd : Option (Nat × Bool)}
theorem hl_copy {α : Type} {T T2 E z y lo : Nat} {x xv : Operand} {enc : α → List Value} {u v w' : Value} {xs ys : List α} {B : HP} {N R : List HP} {K : Value → List HP → Prop} (hs : slOf P T = some (E, z, y)) (he : EncOk z enc) (hlo : lo ≤ xs.length) (hB : RL B z enc v ys)
    (hK : K (.int .i64 (Nat.min ys.length (xs.length - lo))) N) (hz0 : 0 < z := by decide) (hu : w' = subV u lo xs.length none z := by rfl) (hx : ev Γ x = some w' := by rfl) (hv : ev Γ xv = some v := by rfl) (p2 : Pick L B R := by repeat first | exact .z | apply Pick.s) (hp : Put L (Sl E z enc u xs) (Sl E z enc u (over xs lo ys)) N := by repeat first | exact .z | apply Put.s) : HO P r g ⟨dst, .call ⟨.builtin .copy, #[x, xv], #[T, T2]⟩, t, pos, aft, gd⟩ Γ L K :=
  HO.run (by simp) fun a w ha hw => by
    subst hu
    obtain ⟨hu, hsz, _⟩ := slOf_und hs
    have hsl : Sl E z enc u (over xs lo ys) = Own E z u xs.length (splice (xs.flatMap enc) (lo * z) ((ys.take (Nat.min ys.length (xs.length - lo))).flatMap enc)) := by
      rw [flat_over he xs ys lo hlo]; unfold Sl; rw [over_len _ _ _ hlo]
    rw [hsl] at hp
    obtain ⟨R', p1, p1'⟩ := hp.picks
    have hown : RdS (heapOf w) z u xs.length (xs.flatMap enc) := hw.rd p1 own_rd
    have hrd := hw.rd p2 hB
    obtain ⟨vs, hv1, hv2⟩ := hrd.readTo (P := P) (m := Nat.min ys.length (xs.length - lo)) (Nat.min_le_left _ _)
    have hshape : ∃ b c, u = .slice b xs.length c ∧ xs.length ≤ c := by
      rcases hown with ⟨h0, _, a', c, rfl⟩ | ⟨b, o, c, l, t, rfl, hn, _⟩
      · exact ⟨a', c, by rw [h0], by omega⟩
      · exact ⟨_, c, rfl, hn⟩
    obtain ⟨b, c, rfl, hnc⟩ := hshape
    have hm : (#[x, xv] : Array Operand).map a.eval = #[subV (.slice b xs.length c) lo xs.length none z, v] := by simp [ev_ok hx ha, ev_ok hv ha]
    rw [flat_take he] at hv2
    rcases Nat.eq_zero_or_pos (Nat.min ys.length (xs.length - lo)) with h0 | h0
    · have hvs : vs = #[] := by
        apply Array.ext'; rw [hv2, h0]; simp
      subst hvs
      refine ⟨_, N, w, ?_, hK, hw.conv fun _ h => p1'.back (by rw [h0]; have := p1.to h; unfold Sl at this; simpa [splice] using this)⟩
      show (do let d ← resolve a.eval ⟨.builtin .copy, #[x, xv], #[T, T2]⟩ t; invoke d.target d.args : Sem Next).run P w = _
      simp only [resolve, hm, Sem.run_bind, Sem.run_pure, Result.andThen_ok, invoke, builtin, Builtin.copy_, subV, List.getElem?_toArray, List.getElem?_cons_zero, List.getElem?_cons_succ, run_underlying hu, hrd.read.1, run_sizeOf hsz, hv1]
      split <;> simp [storeCells, goInt]
    · have hkz : 0 < Nat.min ys.length (xs.length - lo) * z := Nat.mul_pos h0 hz0
      have hle : (lo + Nat.min ys.length (xs.length - lo)) * z ≤ xs.length * z := Nat.mul_le_mul_right _ (by have : Nat.min ys.length (xs.length - lo) ≤ xs.length - lo := Nat.min_le_right _ _; omega)
      rw [Nat.add_mul] at hle
      have hlen : ((ys.take (Nat.min ys.length (xs.length - lo))).flatMap enc).length = Nat.min ys.length (xs.length - lo) * z := by
        rw [flat_len he, List.length_take, Nat.min_eq_left (Nat.min_le_left _ _)]
      obtain ⟨p, w', e, hr, hw'⟩ := own_store (P := P) hw hp (by rw [hlen]; exact hle) (by rw [hlen]; exact hkz) (ones_flat he _)
      refine ⟨_, N, w', ?_, hK, hw'⟩
      have hbase : (if c = lo then b else b.map (·.add (lo * z))) = some p := by
        have : c ≠ lo := by have : Nat.min ys.length (xs.length - lo) ≤ xs.length - lo := Nat.min_le_right _ _; omega
        rw [if_neg this]
        cases b with
        | none => simp [elA] at e
        | some b => simp only [elA, Value.pointer.injEq, Option.some.injEq] at e; simp [e]
      show (do let d ← resolve a.eval ⟨.builtin .copy, #[x, xv], #[T, T2]⟩ t; invoke d.target d.args : Sem Next).run P w = _
      simp only [resolve, hm, Sem.run_bind, Sem.run_pure, Result.andThen_ok, invoke, builtin, Builtin.copy_, subV, List.getElem?_toArray, List.getElem?_cons_zero, List.getElem?_cons_succ, run_underlying hu, hrd.read.1, run_sizeOf hsz, hv1, Option.getD_none, hbase, hv2, hr, goInt]
theorem subV_id {S : Piece} {z n : Nat} {u : Value} {cs : List Value} {E : TypeId} (h : Own E z u n cs S) : subV u 0 n none z = u := by
  rcases h with ⟨rfl, _, a, rfl⟩ | ⟨b, o, c, l, rfl, _⟩
  · simp [subV]
  · simp [subV, add_none]
theorem hl_copy0 {α : Type} {T T2 E z y : Nat} {x xv : Operand} {enc : α → List Value} {u v : Value} {xs ys : List α} {B : HP} {N R : List HP} {K : Value → List HP → Prop} (hs : slOf P T = some (E, z, y)) (he : EncOk z enc) (hB : RL B z enc v ys)
    (hK : K (.int .i64 (Nat.min ys.length xs.length)) N) (hz0 : 0 < z := by decide) (hx : ev Γ x = some u := by rfl) (hv : ev Γ xv = some v := by rfl) (p2 : Pick L B R := by repeat first | exact .z | apply Pick.s) (hp : Put L (Sl E z enc u xs) (Sl E z enc u (over xs 0 ys)) N := by repeat first | exact .z | apply Put.s) : HO P r g ⟨dst, .call ⟨.builtin .copy, #[x, xv], #[T, T2]⟩, t, pos, aft, gd⟩ Γ L K :=
  fun a w Q next ha hw hn => by
    obtain ⟨R', p1, _⟩ := hp.picks
    obtain ⟨S1, S2, _, _, _, h1, _⟩ := p1.to hw.heap
    have e := subV_id h1
    exact hl_copy (lo := 0) (w' := subV u 0 xs.length none z) hs he (Nat.zero_le _) hB hK hz0 rfl (by rw [e]; exact hx) hv p2 hp a w Q next ha hw hn
theorem h_bs0 {α : Type} {T E z y : Nat} {enc : α → List Value} {K : Value → List HP → Prop} (hs : slOf P T = some (E, z, y)) (hK : ∀ a m c, K (.slice a m c) (Sl E z enc (.slice a m c) [] :: L)) : HO P r g ⟨dst, .buildSlice T 0 #[], t, pos, aft, gd⟩ Γ L K :=
  HO.run (by simp) fun a w ha hw => by
    obtain ⟨hu, hsz, _⟩ := slOf_und hs
    refine ⟨.slice (some ⟨w.heap.size, 0, none⟩) 0 0, _, w.alloc (.cells #[] E (0, 0)), ?_, hK _ _ _, (hw.push (.cells #[] E (0, 0))).conv fun S hS => nil_sl (stars_tail hS)⟩
    simp [execOp, Instr.buildSlice, run_underlying hu, run_sizeOf hsz, Instr.fill, newRow]
    congr 2; apply Array.ext'; simp
/-- A struct of a cell and an aggregate. -/
theorem e_build_pair {s : TypeId} {x y : Operand} {zs : List Value} {n : Nat} {u : Value} {l : List Value} (hz : zeroOf P s = some zs) (hpl : placesOf P s = some [(0, 1), (1, n)]) (hl : l.length = n) (hzl : zs.length = n + 1 := by rfl) (hx : ev Γ x = some u := by rfl) (hy : ev Γ y = some (.agg l.toArray) := by rfl) (hu : u.cells = #[u] := by rfl) :
    EO P g ⟨dst, .build s #[(0, x), (1, y)], t, pos, aft, gd⟩ Γ L (.agg (u :: l).toArray) :=
  e_build (ps := [(0, x), (1, y)]) (vs := [(0, u), (1, .agg l.toArray)]) hz hpl (tm_any _) (by simp [evps, hx, hy]) (by
    rw [fill_step (vs := [u]) rfl hu rfl (by simp [hzl]), fill_step (vs := l) rfl rfl hl (by simp [splice_len _ _ _ (show 0 + [u].length ≤ zs.length by simp [hzl]), hzl]; omega), fill_nil]
    cases zs with
    | nil => simp at hzl
    | cons z zs =>
      simp only [splice, List.set_cons_zero]
      rw [show (1 : Nat) = 0 + 1 from rfl, splice_cons, splice_all _ _ (by simp at hzl; omega)])
/-- A slice of one element. -/
theorem h_bs1 {T E z y : Nat} {x : Operand} {zs cs : List Value} {v : Value} {K : Value → List HP → Prop} (hs : slOf P T = some (E, z, y)) (hz : zeroOf P E = some zs) (hcl : cs.length = z) (hK : ∀ b, K (.slice (some ⟨b, 0, none⟩) 1 1) (cl b E cs :: L)) (hx : ev Γ x = some v := by rfl) (hv : v.cells = cs.toArray := by rfl)
    (hzz : zs.length = z := by rfl) (hm : Nat.ble (1 * z) 10000 = true := by rfl) (hm0 : Nat.beq (1 * z) 0 = false := by rfl) : HO P r g ⟨dst, .buildSlice T 1 #[(0, x)], t, pos, aft, gd⟩ Γ L K :=
  h_bs (ps := [(0, x)]) (vs := [(0, v)]) hs hz (tm_any _) hK hm (by simp [evps, hx]) (by
    rw [fill_step (vs := cs) (z := z) (off := 0) (by simp) hv hcl (by simp [hzz]), fill_nil, splice_all _ _ (by simp [hzz, hcl])]) hzz hm0
/-- An array within a slice, as a slice. -/
def slA (u : Value) (k n : Nat) : Value := match u with
  | .slice (some a) _ _ => .slice (some (a.add k)) n n
  | _ => .slice none 0 0
theorem rd_el {A : HP} {z z1 m n k : Nat} {u : Value} {cs : List Value} (h : Rd A z u m cs) (hk : k + n * z1 ≤ m * z) (h0 : 0 < n * z1) : Rd A z1 (slA u k n) n ((cs.drop k).take (n * z1)) := fun S hS => by
  have hr := h S hS
  obtain ⟨b, o, c, l, t, e1, e2, e3, e4, e5, e6⟩ := hr.base (k := k) (by omega)
  subst e2
  refine .inr ⟨b, o + k, n, l, t, by simp [slA, add_none], Nat.le_refl _, e3, by omega, ?_⟩
  rw [e6, List.drop_take, List.drop_drop, List.take_take, Nat.min_eq_left (by omega)]
theorem e_slice_el {T E n z1 z m k : Nat} {x : Operand} {u : Value} {A : HP} {cs : List Value} (hs : arrOf P T = some (E, n, z1)) (hA : Rd A z u m cs) (hk : k < m * z) (hx : ev Γ x = some (elA u k) := by rfl) (hp : Pick L A M := by repeat first | exact .z | apply Pick.s) : EO P g ⟨dst, .slice T x none none none, t, pos, aft, gd⟩ Γ L (slA u k n) := fun ρ w hρ hw => by
  obtain ⟨b, o, c, l, t', h1, h2, _⟩ := (hw.rd hp hA).base hk
  have h := e_slice_arr (P := P) (g := g) (Γ := Γ) (L := L) (dst := dst) (t := t) (pos := pos) (aft := aft) (gd := gd) (x := x) (b := b) (o := o + k) (lo := 0) (hi := n) hs (hx.trans (congrArg some h1)) (.inl ⟨rfl, rfl⟩) (.inl ⟨rfl, rfl⟩) (Nat.zero_le _) (Nat.le_refl _) ρ w hρ hw
  subst h2
  have e : subAt (.slice (some ⟨b, o + k, none⟩) n n) 0 n n z1 = slA (.slice (some ⟨b, o, none⟩) m c) k n := by
    simp [subAt, slA, add_none]
  rw [e] at h; exact h
/-! ### Definitions of pieces -/
theorem WP.opn {c : Code} {A : HP} {X : Type} {B : X → List HP} (hA : ∀ S, A S → ∃ x, stars (B x) S) {R : List HP} (k : ∀ x, WP P r g c Q Γ (B x ++ R)) (hp : Pick L A R := by repeat first | exact .z | apply Pick.s) : WP P r g c Q Γ L := fun a w ha hw => by
  obtain ⟨S1, S2, hd, l1, l2, h1, h2⟩ := hp.to hw.heap
  obtain ⟨x, hx⟩ := hA S1 h1
  exact k x a w ha ⟨hw.os, hw.tape, hw.output, hw.size, stars_append' ⟨S1, S2, hd, l1, l2, hx, h2⟩⟩
theorem WL.opn {ops rest : List Oper} {A : HP} {X : Type} {B : X → List HP} (hA : ∀ S, A S → ∃ x, stars (B x) S) {R : List HP} (k : ∀ x, WL P r g ops rest Q Γ (B x ++ R)) (hp : Pick L A R := by repeat first | exact .z | apply Pick.s) : WL P r g ops rest Q Γ L := fun a w ha hw => by
  obtain ⟨S1, S2, hd, l1, l2, h1, h2⟩ := hp.to hw.heap
  obtain ⟨x, hx⟩ := hA S1 h1
  exact k x a w ha ⟨hw.os, hw.tape, hw.output, hw.size, stars_append' ⟨S1, S2, hd, l1, l2, hx, h2⟩⟩
theorem PO.opn {e : Exit} {A : HP} {X : Type} {B : X → List HP} (hA : ∀ S, A S → ∃ x, stars (B x) S) {R : List HP} (k : ∀ x, PO g Q e Γ (B x ++ R)) (hp : Pick L A R := by repeat first | exact .z | apply Pick.s) : PO g Q e Γ L := fun a w ha hw => by
  obtain ⟨S1, S2, hd, l1, l2, h1, h2⟩ := hp.to hw.heap
  obtain ⟨x, hx⟩ := hA S1 h1
  exact k x a w ha ⟨hw.os, hw.tape, hw.output, hw.size, stars_append' ⟨S1, S2, hd, l1, l2, hx, h2⟩⟩
theorem HO.opn {o : Oper} {K : Value → List HP → Prop} {A : HP} {X : Type} {B : X → List HP} (hA : ∀ S, A S → ∃ x, stars (B x) S) {R : List HP} (k : ∀ x, HO P r g o Γ (B x ++ R) K) (hp : Pick L A R := by repeat first | exact .z | apply Pick.s) : HO P r g o Γ L K := fun a w Q next ha hw hn => by
  obtain ⟨S1, S2, hd, l1, l2, h1, h2⟩ := hp.to hw.heap
  obtain ⟨x, hx⟩ := hA S1 h1
  exact k x a w Q next ha ⟨hw.os, hw.tape, hw.output, hw.size, stars_append' ⟨S1, S2, hd, l1, l2, hx, h2⟩⟩ hn
theorem fold_stars {A : HP} {B R : List HP} (hB : ∀ S, stars B S → A S) (hs : Split L B R) : ∀ S, stars L S → stars (A :: R) S := fun S hS => by
  obtain ⟨S1, S2, hd, l1, l2, h1, h2⟩ := stars_append (hs.to hS)
  exact ⟨S1, S2, hd, l1, l2, hB S1 h1, h2⟩
theorem WP.cls {c : Code} {A : HP} {B R : List HP} (hB : ∀ S, stars B S → A S) (k : WP P r g c Q Γ (A :: R)) (hs : Split L B R := by repeat first | exact .nil | exact Pick.z | apply Pick.s | apply Split.cons) : WP P r g c Q Γ L := WP.conv (fold_stars hB hs) k
theorem WL.cls {ops rest : List Oper} {A : HP} {B R : List HP} (hB : ∀ S, stars B S → A S) (k : WL P r g ops rest Q Γ (A :: R)) (hs : Split L B R := by repeat first | exact .nil | exact Pick.z | apply Pick.s | apply Split.cons) : WL P r g ops rest Q Γ L := WL.conv (fold_stars hB hs) k
theorem PO.cls {e : Exit} {A : HP} {B R : List HP} (hB : ∀ S, stars B S → A S) (k : PO g Q e Γ (A :: R)) (hs : Split L B R := by repeat first | exact .nil | exact Pick.z | apply Pick.s | apply Split.cons) : PO g Q e Γ L := PO.conv (fold_stars hB hs) k
theorem HO.cls {o : Oper} {K : Value → List HP → Prop} {A : HP} {B R : List HP} (hB : ∀ S, stars B S → A S) (k : HO P r g o Γ (A :: R) K) (hs : Split L B R := by repeat first | exact .nil | exact Pick.z | apply Pick.s | apply Split.cons) : HO P r g o Γ L K := HO.conv (fold_stars hB hs) k
end
end Go.SL

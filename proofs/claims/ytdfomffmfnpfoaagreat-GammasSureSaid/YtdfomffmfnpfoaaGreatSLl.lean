/- The steps of the walk: slices of a block that is known whole; copy, clear, append that takes new memory. -/
import Derived.Test.YtdfomffmfnpfoaaGreatSLk
set_option linter.unusedSimpArgs false
set_option linter.unusedVariables false
set_option linter.unusedSectionVars false
namespace Go.SL
open Go

/-- A slice that begins at cell 'o' of block 'b' (or has no capacity). -/
def At (u : Value) (b o n c : Nat) : Prop := ∃ x, u = .slice x n c ∧ n ≤ c ∧ (x = some ⟨b, o, none⟩ ∨ c = 0)
theorem At.lit {b o n c : Nat} (h : n ≤ c) : At (.slice (some ⟨b, o, none⟩) n c) b o n c := ⟨_, rfl, h, .inl rfl⟩
theorem At.le {u : Value} {b o n c : Nat} (h : At u b o n c) : n ≤ c := h.choose_spec.2.1
theorem At.rd {u : Value} {b o n c z : Nat} {T : TypeId} {l : List Value} (h : At u b o n c) (hc : o + c * z ≤ l.length) : Rd (cl b T l) z u n ((l.drop o).take (n * z)) := by
  obtain ⟨x, rfl, hn, rfl | rfl⟩ := h
  · exact cl_rd hn hc rfl
  · have : n = 0 := by omega
    subst this
    intro S _; exact .inl ⟨rfl, by simp, _, _, rfl⟩
theorem At.elA {u : Value} {b o n c k : Nat} (h : At u b o n c) (hc : 0 < c) : elA u k = .pointer (some ⟨b, o + k, none⟩) := by
  obtain ⟨x, rfl, hn, rfl | rfl⟩ := h
  · simp [SL.elA, add_none]
  · omega
/-- What is owned, opened. -/
theorem own_at {S : Piece} {E z n : Nat} {u : Value} {cs : List Value} (h : Own E z u n cs S) (h0 : 0 < n) : ∃ b o c l, u = .slice (some ⟨b, o, none⟩) n c ∧ n ≤ c ∧ c < 9223372036854775808 ∧ o + c * z ≤ l.length ∧ (l.drop o).take (n * z) = cs ∧ cl b E l S := by
  rcases h with ⟨rfl, _⟩ | ⟨b, o, c, l, h1, h2, h3, h4, h5, h6⟩
  · omega
  · exact ⟨b, o, c, l, h1, h2, h3, h5, h6.symm, h4⟩
theorem at_own {u : Value} {b o n c z : Nat} {E : TypeId} {l cs : List Value} (h : At u b o n c) (hc : c < 9223372036854775808) (hl : o + c * z ≤ l.length) (hcs : (l.drop o).take (n * z) = cs) : ∀ S, cl b E l S → Own E z u n cs S := fun S hS => by
  obtain ⟨x, rfl, hn, rfl | rfl⟩ := h
  · exact .inr ⟨b, o, c, l, rfl, hn, hc, hS, hl, hcs.symm⟩
  · have : n = 0 := by omega
    subst this; simp at hcs; subst hcs
    exact .inl ⟨rfl, rfl, _, rfl⟩

section
variable {P : Program} {r : Option Nat} {g : World} {Γ : Env} {L M : List HP} {Q : Post} {dst : Option Tmp} {t : TypeId} {pos : String} {aft : Array Edge} {gd : Option (Nat × Bool)}

theorem WP.own_open {c : Code} {E z n : Nat} {u : Value} {cs : List Value} {R : List HP} (h0 : 0 < n) (hp : Pick L (Own E z u n cs) R) (k : ∀ b o c' l, u = .slice (some ⟨b, o, none⟩) n c' → n ≤ c' → c' < 9223372036854775808 → o + c' * z ≤ l.length → (l.drop o).take (n * z) = cs → WP P r g c Q Γ (cl b E l :: R)) : WP P r g c Q Γ L := fun a w ha hw => by
  obtain ⟨S1, S2, hd, l1, l2, h1, h2⟩ := hp.to hw.heap
  obtain ⟨b, o, c', l, e1, e2, e3, e4, e5, e6⟩ := own_at h1 h0
  exact k b o c' l e1 e2 e3 e4 e5 a w ha ⟨hw.os, hw.tape, hw.output, hw.size, S1, S2, hd, l1, l2, e6, h2⟩

theorem slOf_und {T E z y : Nat} (hs : slOf P T = some (E, z, y)) : P.underlying T = some (.slice E) ∧ szOf P E = some z ∧ ∃ i, P.info? E = some i ∧ i.size = z ∧ i.bytes = y := by
  unfold slOf at hs
  split at hs
  case h_2 => cases hs
  case h_1 e hu =>
    simp only [Option.map_eq_some_iff] at hs
    obtain ⟨i, hi, hs⟩ := hs
    cases hs
    exact ⟨hu, by simp [szOf, hi], i, hi, rfl, rfl⟩

/-- A part of such a slice, as far as its capacity goes. -/
def subAt (u : Value) (lo hi c z : Nat) : Value := match u with
  | .slice a _ _ => .slice (if c = lo then a else a.map (·.add (lo * z))) (hi - lo) (c - lo)
  | v => v
theorem At.sub {u : Value} {b o n c lo hi m z : Nat} (h : At u b o n c) (h1 : lo ≤ hi) (h2 : hi ≤ m) (h3 : m ≤ c) : At (subAt u lo hi m z) b (o + lo * z) (hi - lo) (m - lo) := by
  obtain ⟨x, rfl, hn, hx⟩ := h
  refine ⟨_, rfl, by omega, ?_⟩
  by_cases e : m = lo
  · right; omega
  · rcases hx with rfl | rfl
    · left; simp [e, add_none]
    · omega
theorem e_slice_at {T E z y n c lo hi m b o : Nat} {x : Operand} {xl xh xm : Option Operand} {u : Value} (hs : slOf P T = some (E, z, y)) (hx : ev Γ x = some u) (hA : At u b o n c)
    (hlo : (xl = none ∧ lo = 0) ∨ ∃ o k, xl = some o ∧ ev Γ o = some (.int k lo)) (hhi : (xh = none ∧ hi = n ∧ xm = none) ∨ ∃ o k, xh = some o ∧ ev Γ o = some (.int k hi)) (hmx : (xm = none ∧ m = c) ∨ ∃ o k, xm = some o ∧ ev Γ o = some (.int k m))
    (h1 : lo ≤ hi) (h2 : hi ≤ m) (h3 : m ≤ c) : EO P g ⟨dst, .slice T x xl xh xm, t, pos, aft, gd⟩ Γ L (subAt u lo hi m z) :=
  .of (by simp) fun ρ hρ w _ => by
    obtain ⟨a, rfl, hn, _⟩ := hA
    have hx' := hρ x _ (by simp [Op.operands]) hx
    rcases hmx with ⟨rfl, rfl⟩ | ⟨om, km, rfl, hm⟩
    · have := run_sliceAt (P := P) (a := a) (c := m) (n := n) (lo := lo) (hi := hi) (lo' := xl.map ρ) (hi' := xh.map ρ) (mx' := none) (mx := none) hs
        (by rcases hlo with ⟨rfl, rfl⟩ | ⟨o, k, rfl, h⟩
            · exact .inl ⟨rfl, rfl⟩
            · exact .inr ⟨k, by simp [hρ o _ (by simp [Op.operands]) h]⟩)
        (by rcases hhi with ⟨rfl, rfl, _⟩ | ⟨o, k, rfl, h⟩
            · exact .inl ⟨rfl, rfl, rfl⟩
            · exact .inr ⟨k, by simp [hρ o _ (by simp [Op.operands]) h]⟩)
        (.inl ⟨rfl, rfl⟩) h1 (by simpa using h2) (by simp) w
      simp only [execOp, hx', Option.map_none, Sem.run_bind, this, Result.andThen_ok]; rfl
    · have := run_sliceAt (P := P) (a := a) (c := c) (n := n) (lo := lo) (hi := hi) (lo' := xl.map ρ) (hi' := xh.map ρ) (mx' := some (.int km m)) (mx := some m) hs
        (by rcases hlo with ⟨rfl, rfl⟩ | ⟨o, k, rfl, h⟩
            · exact .inl ⟨rfl, rfl⟩
            · exact .inr ⟨k, by simp [hρ o _ (by simp [Op.operands]) h]⟩)
        (by rcases hhi with ⟨_, _, h⟩ | ⟨o, k, rfl, h⟩
            · cases h
            · exact .inr ⟨k, by simp [hρ o _ (by simp [Op.operands]) h]⟩)
        (.inr ⟨km, m, rfl, rfl⟩) h1 (by simpa using h2) (by simpa using h3) w
      simp only [execOp, hx', Option.map_some, hρ om _ (by simp [Op.operands]) hm, Sem.run_bind, this, Result.andThen_ok]; rfl
theorem e_cap {T E z y n c b o : Nat} {x : Operand} {u : Value} (hs : slOf P T = some (E, z, y)) (hx : ev Γ x = some u) (hA : At u b o n c) : EO P g ⟨dst, .call ⟨.builtin .cap, #[x], #[T]⟩, t, pos, aft, gd⟩ Γ L (.int .i64 c) :=
  e_call_b (args := [x]) (vs := [u]) (by simp [evs, hx]) fun w cs' hw => by
    obtain ⟨a, rfl, _⟩ := hA
    simp [builtin, Builtin.cap_, run_underlying (slOf_und hs).1, goInt]
/-- A slice of an array. -/
theorem e_slice_arr {T E n z b o lo hi : Nat} {x : Operand} {xl xh : Option Operand} (hs : arrOf P T = some (E, n, z)) (hx : ev Γ x = some (.pointer (some ⟨b, o, none⟩)))
    (hlo : (xl = none ∧ lo = 0) ∨ ∃ o k, xl = some o ∧ ev Γ o = some (.int k lo)) (hhi : (xh = none ∧ hi = n) ∨ ∃ o k, xh = some o ∧ ev Γ o = some (.int k hi)) (h1 : lo ≤ hi) (h2 : hi ≤ n) : EO P g ⟨dst, .slice T x xl xh none, t, pos, aft, gd⟩ Γ L (subAt (.slice (some ⟨b, o, none⟩) n n) lo hi n z) :=
  .of (by simp) fun ρ hρ w _ => by
    have hx' := hρ x _ (by simp [Op.operands]) hx
    unfold arrOf at hs
    split at hs
    case h_2 => cases hs
    case h_1 hu =>
      simp only [Option.map_eq_some_iff] at hs
      obtain ⟨inf, hinf, hs⟩ := hs
      cases hs
      have hz : szOf P E = some inf.size := by simp [szOf, hinf]
      have hl2 : (xl = none ∧ lo = 0) ∨ ∃ o k, xl = some o ∧ ρ o = .int k lo := by
        rcases hlo with h | ⟨o, k, h, h'⟩
        · exact .inl h
        · subst h; exact .inr ⟨o, k, rfl, hρ o _ (by simp [Op.operands]) h'⟩
      have hh2 : (xh = none ∧ hi = n) ∨ ∃ o k, xh = some o ∧ ρ o = .int k hi := by
        rcases hhi with h | ⟨o, k, h, h'⟩
        · exact .inl h
        · subst h; exact .inr ⟨o, k, rfl, hρ o _ (by simp [Op.operands]) h'⟩
      have h5 : (lo : Int) ≤ hi := by omega
      have h6 : (hi : Int) ≤ n := by omega
      rcases hl2 with ⟨rfl, rfl⟩ | ⟨ol, kl, rfl, hol⟩ <;> rcases hh2 with ⟨rfl, rfl⟩ | ⟨oh, kh, rfl, hoh⟩ <;>
        simp_all [execOp, Instr.sliceAt, Instr.sureAddr, run_underlying hu, Instr.sliceBounds, Instr.sliceBound, asIntOf, run_sizeOf hz, subAt] <;> split <;> rfl

/-! ### copy, clear -/
theorem ones_take : ∀ {l : List Value} (k : Nat), ones l = true → ones (l.take k) = true
  | [], k, _ => by simp [ones]
  | v :: l, 0, _ => rfl
  | v :: l, k + 1, h => by
    simp only [ones, Bool.and_eq_true, List.take_succ_cons] at h ⊢
    exact ⟨h.1, ones_take k h.2⟩
theorem run_copy {T T2 E z y n c k b o : Nat} {l ds : List Value} {v : Value} {a : Option Addr} {w : World} {U : TypeId} (hs : slOf P T = some (E, z, y)) (ha : a = some ⟨b, o, none⟩ ∨ n = 0) (hn : n ≤ c) (hl : o + c * z ≤ l.length)
    (h : w.heap[b]? = some (.cells l.toArray U (0, 0))) (hlen : (Builtin.lenOf v).run P w = .ok k w) (hcs : ∀ m, m ≤ k → ∃ vs, (Builtin.firstCells z m v).run P w = .ok vs w ∧ (vs.toList = ds.take (m * z))) (hdl : ds.length = k * z) (h1 : ones (ds.take (Nat.min k n * z)) = true) :
    ∃ w', (Builtin.copy_ #[T, T2] t #[.slice a n c, v]).run P w = .ok (goInt (Nat.min k n)) w' ∧ w'.os = w.os ∧ w'.tape = w.tape ∧ w'.output = w.output ∧ w'.heap.size = w.heap.size ∧ w'.heap[b]? = some (.cells (splice l o (ds.take (Nat.min k n * z))).toArray U (0, 0)) ∧ ∀ j, j ≠ b → w'.heap[j]? = w.heap[j]? := by
  obtain ⟨hu, hsz, _⟩ := slOf_und hs
  obtain ⟨vs, hv1, hv2⟩ := hcs (Nat.min k n) (Nat.min_le_left _ _)
  have hm : Nat.min k n * z ≤ c * z := Nat.mul_le_mul_right _ (Nat.le_trans (Nat.min_le_right _ _) hn)
  have hmk : Nat.min k n * z ≤ k * z := Nat.mul_le_mul_right _ (Nat.min_le_left _ _)
  have htl : (ds.take (Nat.min k n * z)).length = Nat.min k n * z := by rw [List.length_take, hdl]; omega
  rcases ha with rfl | rfl
  · obtain ⟨w', hr, a1, a2, a3, a4, a5, a6⟩ := run_storeCells (P := P) (T := U) (b := b) (ds.take (Nat.min k n * z)) 0 o l w h (by omega) (ones_ok h1)
    refine ⟨w', ?_, a1, a2, a3, a4, by simpa using a5, a6⟩
    simp [Builtin.copy_, run_underlying hu, hlen, run_sizeOf hsz, hv1, hv2, hr]
  · have e0 : Nat.min k 0 = 0 := Nat.min_eq_right (Nat.zero_le _)
    rw [e0] at hv1 hv2 ⊢
    simp at hv2
    refine ⟨w, ?_, rfl, rfl, rfl, rfl, by simpa [splice] using h, fun _ _ => rfl⟩
    have hvs : vs = #[] := by apply Array.ext'; simp [hv2]
    subst hvs
    cases a <;> simp [Builtin.copy_, run_underlying hu, hlen, run_sizeOf hsz, hv1, storeCells]
theorem RdS.readTo {S : World} {z n m : Nat} {u : Value} {cs : List Value} (h : RdS (heapOf S) z u n cs) (hm : m ≤ n) : ∃ vs, (Builtin.firstCells z m u).run P S = .ok vs S ∧ vs.toList = cs.take (m * z) := by
  rcases h with ⟨rfl, rfl, a, c, rfl⟩ | ⟨b, o, c, l, t, rfl, hn, hS, hl, rfl⟩
  · have : m = 0 := by omega
    subst this
    cases a <;> exact ⟨#[], by simp [Builtin.firstCells, loadCells, loadCellsFrom], by simp⟩
  · have h1 : m * z ≤ n * z := Nat.mul_le_mul_right _ hm
    have h2 : n * z ≤ c * z := Nat.mul_le_mul_right _ hn
    refine ⟨_, run_loadCells (b := b) (o := o) ⟨t, hS⟩ (by omega), ?_⟩
    rw [List.take_take, Nat.min_eq_left h1]
/-- copy into a slice of a block that is known whole. -/
theorem h_copy {T T2 E z y n c k b o : Nat} {U : TypeId} {x xv : Operand} {u v : Value} {l ds : List Value} {B : HP} {N M' : List HP} {K : Value → List HP → Prop} (hs : slOf P T = some (E, z, y)) (hA : At u b o n c) (hl : o + c * z ≤ l.length) (hB : Rd B z v k ds) (h1 : ones (ds.take (Nat.min k n * z)) = true)
    (hK : K (.int .i64 (Nat.min k n)) N) (hx : ev Γ x = some u := by rfl) (hv : ev Γ xv = some v := by rfl) (p2 : Pick L B M' := by repeat first | exact .z | apply Pick.s) (hp : Put L (cl b U l) (cl b U (splice l o (ds.take (Nat.min k n * z)))) N := by repeat first | exact .z | apply Put.s) : HO P r g ⟨dst, .call ⟨.builtin .copy, #[x, xv], #[T, T2]⟩, t, pos, aft, gd⟩ Γ L K :=
  HO.run (by simp) fun a w ha hw => by
    obtain ⟨a', rfl, hn, hx'⟩ := hA
    obtain ⟨R, p1, _⟩ := hp.picks
    have hr := hw.rd p2 hB
    obtain ⟨w', hrun, a1, a2, a3, a4, a5, a6⟩ := run_copy (P := P) (t := t) (T2 := T2) (a := a') (n := n) (c := c) (o := o) (v := v) hs (hx'.imp id (by omega)) hn hl (hw.get p1) (hr.read (P := P)).1 (fun m hm => hr.readTo hm) hr.len h1
    refine ⟨_, N, w', ?_, hK, hw.set hp w' a1 a2 a3 a4 a5 a6⟩
    have hm : (#[x, xv] : Array Operand).map a.eval = #[.slice a' n c, v] := by simp [ev_ok hx ha, ev_ok hv ha]
    show (do let d ← resolve a.eval ⟨.builtin .copy, #[x, xv], #[T, T2]⟩ t; invoke d.target d.args : Sem Next).run P w = _
    simp only [resolve, hm, Sem.run_bind, Sem.run_pure, Result.andThen_ok, invoke, builtin, hrun, goInt]
theorem ones_rep {zs : List Value} (h : ones zs = true) : ∀ n, ones (List.replicate n zs).flatten = true
  | 0 => rfl
  | n + 1 => by rw [List.replicate_succ, List.flatten_cons]; exact ones_append h (ones_rep h n)
theorem h_clear {T E z y n c b o : Nat} {U : TypeId} {x : Operand} {u : Value} {l zs : List Value} {N : List HP} {K : Value → List HP → Prop} (hs : slOf P T = some (E, z, y)) (hz : zeroOf P E = some zs) (hA : At u b o n c) (hl : o + c * z ≤ l.length)
    (hK : K (.tuple #[]) N) (hzz : zs.length = z := by rfl) (h1 : ones zs = true := by rfl) (hx : ev Γ x = some u := by rfl) (hp : Put L (cl b U l) (cl b U (splice l o (List.replicate n zs).flatten)) N := by repeat first | exact .z | apply Put.s) : HO P r g ⟨dst, .call ⟨.builtin .clear, #[x], #[T]⟩, t, pos, aft, gd⟩ Γ L K :=
  HO.run (by simp) fun a w ha hw => by
    obtain ⟨a', rfl, hn, hx'⟩ := hA
    obtain ⟨R, p1, _⟩ := hp.picks
    obtain ⟨hu, hsz, _⟩ := slOf_und hs
    have hb := hw.get p1
    unfold zeroOf at hz
    cases hzi : (P.info? E).bind (·.zero) with
    | none => rw [hzi] at hz; cases hz
    | some zv =>
    rw [hzi] at hz
    simp at hz
    have hz' : zv.cells = zs.toArray := by rw [← hz]
    have hm : (#[x] : Array Operand).map a.eval = #[.slice a' n c] := by simp [ev_ok hx ha]
    rcases Nat.eq_zero_or_pos n with rfl | h0
    · refine ⟨_, N, w, ?_, hK, hw.set hp w rfl rfl rfl rfl (by simpa [splice] using hb) (fun _ _ => rfl)⟩
      show (do let d ← resolve a.eval ⟨.builtin .clear, #[x], #[T]⟩ t; invoke d.target d.args : Sem Next).run P w = _
      simp only [resolve, hm, Sem.run_bind, Sem.run_pure, Result.andThen_ok, invoke, builtin, Builtin.clear_]
      cases a' <;> simp [run_underlying hu]
    · have hx'' : a' = some ⟨b, o, none⟩ := by rcases hx' with h | h <;> first | exact h | omega
      subst hx''
      have hle : n * z ≤ c * z := Nat.mul_le_mul_right _ hn
      obtain ⟨w', hr, a1, a2, a3, a4, a5, a6⟩ := run_storeCells (P := P) (T := U) (b := b) (List.replicate n zs).flatten 0 o l w hb (by simp [hzz]; omega) (ones_ok (ones_rep h1 n))
      refine ⟨_, N, w', ?_, hK, hw.set hp w' a1 a2 a3 a4 (by simpa using a5) a6⟩
      show (do let d ← resolve a.eval ⟨.builtin .clear, #[x], #[T]⟩ t; invoke d.target d.args : Sem Next).run P w = _
      obtain ⟨n', rfl⟩ : ∃ n', n = n' + 1 := ⟨n - 1, by omega⟩
      simp only [resolve, hm, Sem.run_bind, Sem.run_pure, Result.andThen_ok, invoke, builtin, Builtin.clear_]
      simp [run_underlying hu, run_zeroValue hzi, hz', zeroCells_eq, hr]
end
end Go.SL

/- The steps of the walk: parts of slices, stores into them, append, make. -/
import Derived.Test.YtdfomffmfnpfoaaGreatSLd
set_option linter.unusedSimpArgs false
set_option linter.unusedVariables false
namespace Go.SL
open Go

/-- A part of a slice. -/
def subV (u : Value) (lo hi : Nat) (mx : Option Nat) (z : Nat) : Value := match u with
  | .slice a _ c => .slice (if mx.getD c = lo then a else a.map (·.add (lo * z))) (hi - lo) (mx.getD c - lo)
  | v => v
theorem RdS.sub {S : Piece} {z n lo hi : Nat} {u : Value} {cs : List Value} {mx : Option Nat} (h : RdS S z u n cs) (h1 : lo ≤ hi) (h2 : hi ≤ n) (h3 : ∀ m, mx = some m → hi ≤ m ∧ m ≤ n) : RdS S z (subV u lo hi mx z) (hi - lo) ((cs.drop (lo * z)).take ((hi - lo) * z)) := by
  have hl := h.len
  rcases h with ⟨rfl, rfl, a, c, rfl⟩ | ⟨b, o, c, l, t, rfl, hn, hS, hc, rfl⟩
  · have e1 : hi = 0 := by omega
    have e2 : lo = 0 := by omega
    subst e1; subst e2
    exact .inl ⟨rfl, by simp, _, _, rfl⟩
  · by_cases e : mx.getD c = lo
    · have e1 : hi = lo := by
        cases mx with
        | none => simp at e; omega
        | some m => have := h3 m rfl; simp at e; omega
      subst e1
      exact .inl ⟨by omega, by simp, some ⟨b, o, none⟩, mx.getD c - hi, by simp [subV, e]⟩
    · have hm : hi ≤ mx.getD c ∧ mx.getD c ≤ c := by
        cases mx with
        | none => simp; omega
        | some m => have := h3 m rfl; simp; omega
      refine .inr ⟨b, o + lo * z, mx.getD c - lo, l, t, by simp [subV, e, add_none], by omega, hS, ?_, ?_⟩
      · have : o + lo * z + (mx.getD c - lo) * z = o + (mx.getD c) * z := by rw [Nat.add_assoc, ← Nat.add_mul]; congr 2; omega
        rw [this]
        have : mx.getD c * z ≤ c * z := Nat.mul_le_mul_right z hm.2
        omega
      · rw [List.drop_take, List.take_take, List.drop_drop]
        have h4 : (hi - lo) * z ≤ n * z - lo * z := by
          rw [← Nat.sub_mul]; exact Nat.mul_le_mul_right z (by omega)
        rw [Nat.min_eq_left h4]
theorem Rd.sub {A : HP} {z n lo hi : Nat} {u : Value} {cs : List Value} {mx : Option Nat} (h : Rd A z u n cs) (h1 : lo ≤ hi) (h2 : hi ≤ n) (h3 : ∀ m, mx = some m → hi ≤ m ∧ m ≤ n) : Rd A z (subV u lo hi mx z) (hi - lo) ((cs.drop (lo * z)).take ((hi - lo) * z)) :=
  fun S hS => (h S hS).sub h1 h2 h3
theorem RL.sub {α : Type} {A : HP} {z : Nat} {enc : α → List Value} {u : Value} {xs : List α} {lo hi : Nat} {mx : Option Nat} (he : EncOk z enc) (h : RL A z enc u xs) (h1 : lo ≤ hi) (h2 : hi ≤ xs.length) (h3 : ∀ m, mx = some m → hi ≤ m ∧ m ≤ xs.length) :
    RL A z enc (subV u lo hi mx z) ((xs.drop lo).take (hi - lo)) := by
  have := Rd.sub h h1 h2 h3
  rw [flat_drop he, flat_take he] at this
  unfold RL
  rw [show ((xs.drop lo).take (hi - lo)).length = hi - lo by simp; omega]
  exact this
theorem RL.from_ {α : Type} {A : HP} {z : Nat} {enc : α → List Value} {u : Value} {xs : List α} {lo : Nat} (he : EncOk z enc) (h : RL A z enc u xs) (h1 : lo ≤ xs.length) : RL A z enc (subV u lo xs.length none z) (xs.drop lo) := by
  have := RL.sub (mx := none) he h h1 (Nat.le_refl _) (by simp)
  rwa [List.take_of_length_le (by simp)] at this
theorem RL.to_ {α : Type} {A : HP} {z : Nat} {enc : α → List Value} {u : Value} {xs : List α} {hi : Nat} (he : EncOk z enc) (h : RL A z enc u xs) (h1 : hi ≤ xs.length) : RL A z enc (subV u 0 hi none z) (xs.take hi) := by
  have := RL.sub (lo := 0) (mx := none) he h (Nat.zero_le _) h1 (by simp)
  simpa using this

section
variable {P : Program} {r : Option Nat} {g : World} {Γ : Env} {L M : List HP} {A : HP} {dst : Option Tmp} {t : TypeId} {pos : String} {aft : Array Edge} {gd : Option (Nat × Bool)}

theorem run_sliceAt {T E z y n c lo hi : Nat} {a : Option Addr} {lo' hi' mx' : Option Value} {mx : Option Nat} (hs : slOf P T = some (E, z, y)) (hlo : (lo' = none ∧ lo = 0) ∨ ∃ k, lo' = some (.int k lo)) (hhi : (hi' = none ∧ hi = n ∧ mx = none) ∨ ∃ k, hi' = some (.int k hi))
    (hmx : (mx' = none ∧ mx = none) ∨ ∃ k m, mx' = some (.int k (m : Nat)) ∧ mx = some m) (h1 : lo ≤ hi) (h2 : hi ≤ mx.getD c) (h3 : mx.getD c ≤ c) (w : World) : (Instr.sliceAt T (.slice a n c) lo' hi' mx').run P w = .ok (subV (.slice a n c) lo hi mx z) w := by
  unfold slOf at hs
  split at hs
  case h_2 => cases hs
  case h_1 hu =>
    simp only [Option.map_eq_some_iff] at hs
    obtain ⟨inf, hinf, hs⟩ := hs
    cases hs
    have hz : szOf P E = some inf.size := by simp [szOf, hinf]
    rcases hlo with ⟨rfl, rfl⟩ | ⟨k1, rfl⟩ <;> rcases hmx with ⟨rfl, rfl⟩ | ⟨k3, m, rfl, rfl⟩ <;> rcases hhi with ⟨rfl, rfl, h4⟩ | ⟨k2, rfl⟩ <;> simp at h1 h2 h3 <;>
      first
      | (cases h4; done)
      | (simp [Instr.sliceAt, run_underlying hu, Instr.slice, Instr.sliceBounds, Instr.sliceBound, asIntOf, run_sizeOf hz, subV, h1, h2, h3]; done)
      | (have h5 : (lo : Int) ≤ hi := by omega
         simp [Instr.sliceAt, run_underlying hu, Instr.slice, Instr.sliceBounds, Instr.sliceBound, asIntOf, run_sizeOf hz, subV, h1, h2, h3, h5]; done)

/-- A part of a slice that is read. -/
theorem e_slice {T E z y n lo hi : Nat} {x : Operand} {xl xh xm : Option Operand} {u : Value} {cs : List Value} {mx : Option Nat} (hs : slOf P T = some (E, z, y)) (hx : ev Γ x = some u) (hA : Rd A z u n cs)
    (hlo : (xl = none ∧ lo = 0) ∨ ∃ o k, xl = some o ∧ ev Γ o = some (.int k lo)) (hhi : (xh = none ∧ hi = n ∧ mx = none) ∨ ∃ o k, xh = some o ∧ ev Γ o = some (.int k hi)) (hmx : (xm = none ∧ mx = none) ∨ ∃ o k m, xm = some o ∧ ev Γ o = some (.int k (m : Nat)) ∧ mx = some m)
    (h1 : lo ≤ hi) (h2 : hi ≤ n) (h3 : ∀ m, mx = some m → hi ≤ m ∧ m ≤ n) (hp : Pick L A M := by repeat first | exact .z | apply Pick.s) : EO P g ⟨dst, .slice T x xl xh xm, t, pos, aft, gd⟩ Γ L (subV u lo hi mx z) :=
  .of (by simp) fun ρ hρ w hw => by
    have hr := hw.rd hp hA
    have hex : ∃ a c, u = .slice a n c ∧ n ≤ c := by
      rcases hr with ⟨rfl, _, a, c, rfl⟩ | ⟨b, o, c, l, t, rfl, hn, _⟩
      · exact ⟨a, c, rfl, Nat.zero_le _⟩
      · exact ⟨_, c, rfl, hn⟩
    obtain ⟨a, c, rfl, hn⟩ := hex
    have hm : hi ≤ mx.getD c ∧ mx.getD c ≤ c := by
      cases mx with
      | none => simp; omega
      | some m => have := h3 m rfl; simp; omega
    have hx' := hρ x _ (by simp [Op.operands]) hx
    have := run_sliceAt (P := P) (a := a) (c := c) (n := n) (lo := lo) (hi := hi) (lo' := xl.map ρ) (hi' := xh.map ρ) (mx' := xm.map ρ) (mx := mx) hs
      (by rcases hlo with ⟨rfl, rfl⟩ | ⟨o, k, rfl, h⟩
          · exact .inl ⟨rfl, rfl⟩
          · exact .inr ⟨k, by simp [hρ o _ (by simp [Op.operands]) h]⟩)
      (by rcases hhi with ⟨rfl, rfl, rfl⟩ | ⟨o, k, rfl, h⟩
          · exact .inl ⟨rfl, rfl, rfl⟩
          · exact .inr ⟨k, by simp [hρ o _ (by simp [Op.operands]) h]⟩)
      (by rcases hmx with ⟨rfl, rfl⟩ | ⟨o, k, m, rfl, h, rfl⟩
          · exact .inl ⟨rfl, rfl⟩
          · exact .inr ⟨k, m, by simp [hρ o _ (by simp [Op.operands]) h], rfl⟩) h1 hm.1 hm.2 w
    simp only [execOp, hx', Sem.run_bind, this, Result.andThen_ok]; rfl
section lists
variable {α : Type} {T E z y lo hi : Nat} {x xl xh xm : Operand} {enc : α → List Value} {u : Value} {xs : List α} {k k' k'' : IntKind}
theorem el_from (hs : slOf P T = some (E, z, y)) (hA : RL A z enc u xs) (h1 : lo ≤ xs.length) (hx : ev Γ x = some u := by rfl) (hl : ev Γ xl = some (.int k lo) := by rfl) (hp : Pick L A M := by repeat first | exact .z | apply Pick.s) :
    EO P g ⟨dst, .slice T x (some xl) none none, t, pos, aft, gd⟩ Γ L (subV u lo xs.length none z) := e_slice hs hx hA (.inr ⟨_, _, rfl, hl⟩) (.inl ⟨rfl, rfl, rfl⟩) (.inl ⟨rfl, rfl⟩) h1 (Nat.le_refl _) (by simp) hp
theorem el_to (hs : slOf P T = some (E, z, y)) (hA : RL A z enc u xs) (h1 : hi ≤ xs.length) (hx : ev Γ x = some u := by rfl) (hl : ev Γ xh = some (.int k hi) := by rfl) (hp : Pick L A M := by repeat first | exact .z | apply Pick.s) :
    EO P g ⟨dst, .slice T x none (some xh) none, t, pos, aft, gd⟩ Γ L (subV u 0 hi none z) := e_slice hs hx hA (.inl ⟨rfl, rfl⟩) (.inr ⟨_, _, rfl, hl⟩) (.inl ⟨rfl, rfl⟩) (Nat.zero_le _) h1 (by simp) hp
theorem el_fromto (hs : slOf P T = some (E, z, y)) (hA : RL A z enc u xs) (h0 : lo ≤ hi) (h1 : hi ≤ xs.length) (hx : ev Γ x = some u := by rfl) (hl : ev Γ xl = some (.int k lo) := by rfl) (hh : ev Γ xh = some (.int k' hi) := by rfl) (hp : Pick L A M := by repeat first | exact .z | apply Pick.s) :
    EO P g ⟨dst, .slice T x (some xl) (some xh) none, t, pos, aft, gd⟩ Γ L (subV u lo hi none z) := e_slice hs hx hA (.inr ⟨_, _, rfl, hl⟩) (.inr ⟨_, _, rfl, hh⟩) (.inl ⟨rfl, rfl⟩) h0 h1 (by simp) hp
theorem el_to3 (hs : slOf P T = some (E, z, y)) (hA : RL A z enc u xs) (h1 : hi ≤ xs.length) (hx : ev Γ x = some u := by rfl) (hl : ev Γ xh = some (.int k hi) := by rfl) (hm : ev Γ xm = some (.int k' hi) := by rfl) (hp : Pick L A M := by repeat first | exact .z | apply Pick.s) :
    EO P g ⟨dst, .slice T x none (some xh) (some xm), t, pos, aft, gd⟩ Γ L (subV u 0 hi (some hi) z) := e_slice hs hx hA (.inl ⟨rfl, rfl⟩) (.inr ⟨_, _, rfl, hl⟩) (.inr ⟨_, _, _, rfl, hm, rfl⟩) (Nat.zero_le _) h1 (by rintro m ⟨⟩; omega) hp
theorem el_fromto3 (hs : slOf P T = some (E, z, y)) (hA : RL A z enc u xs) (h0 : lo ≤ hi) (h1 : hi ≤ xs.length) (hx : ev Γ x = some u := by rfl) (hl : ev Γ xl = some (.int k lo) := by rfl) (hh : ev Γ xh = some (.int k' hi) := by rfl) (hm : ev Γ xm = some (.int k'' hi) := by rfl) (hp : Pick L A M := by repeat first | exact .z | apply Pick.s) :
    EO P g ⟨dst, .slice T x (some xl) (some xh) (some xm), t, pos, aft, gd⟩ Γ L (subV u lo hi (some hi) z) := e_slice hs hx hA (.inr ⟨_, _, rfl, hl⟩) (.inr ⟨_, _, rfl, hh⟩) (.inr ⟨_, _, _, rfl, hm, rfl⟩) h0 h1 (by rintro m ⟨⟩; omega) hp
end lists

/-! ### Stores into a slice that is owned -/
theorem splice_eq : ∀ (vs l : List Value) (o : Nat), o + vs.length ≤ l.length → splice l o vs = l.take o ++ vs ++ l.drop (o + vs.length)
  | [], l, o, _ => by simp [splice]
  | v :: vs, l, o, h => by
    simp only [List.length_cons] at h
    simp only [splice]
    have hlt : o < l.length := by omega
    rw [splice_eq vs _ _ (by simp; omega), List.drop_set_of_lt (by omega)]
    have e1 : (l.set o v).take (o + 1) = l.take o ++ [v] := by
      rw [List.set_eq_take_append_cons_drop, if_pos hlt, List.take_append]
      simp only [List.length_take, Nat.min_eq_left (Nat.le_of_lt hlt)]
      rw [List.take_of_length_le (by simp; omega), show o + 1 - o = 1 by omega]; rfl
    rw [e1]
    simp only [List.append_assoc, List.cons_append, List.nil_append, List.length_cons]
    rw [show o + 1 + vs.length = o + (vs.length + 1) by omega]
theorem splice_get (l vs : List Value) (o : Nat) (h : o + vs.length ≤ l.length) (i : Nat) : (splice l o vs)[i]? = if i < o then l[i]? else if i < o + vs.length then vs[i - o]? else l[i]? := by
  rw [splice_eq vs l o h, List.append_assoc]
  by_cases h1 : i < o
  · rw [if_pos h1, List.getElem?_append_left (by simp; omega), List.getElem?_take_of_lt h1]
  · rw [if_neg h1, List.getElem?_append_right (by simp; omega)]
    simp only [List.length_take, Nat.min_eq_left (show o ≤ l.length by omega)]
    by_cases h2 : i < o + vs.length
    · rw [if_pos h2, List.getElem?_append_left (by omega)]
    · rw [if_neg h2, List.getElem?_append_right (by omega), List.getElem?_drop]
      congr 1; omega
theorem splice_len (l vs : List Value) (o : Nat) (h : o + vs.length ≤ l.length) : (splice l o vs).length = l.length := by
  rw [splice_eq vs l o h]; simp; omega
theorem td_get (l : List Value) (o m i : Nat) : ((l.drop o).take m)[i]? = if i < m then l[o + i]? else none := by
  rw [List.getElem?_take, List.getElem?_drop]
theorem own_store {E z n k : Nat} {u : Value} {cs zs : List Value} {w : World} {N : List HP} (hw : Sat g L w) (hp : Put L (Own E z u n cs) (Own E z u n (splice cs k zs)) N) (hk : k + zs.length ≤ n * z) (h0 : 0 < zs.length) (h1 : ones zs = true) :
    ∃ a w', elA u k = .pointer (some a) ∧ (storeCells a zs).run P w = .ok () w' ∧ Sat g N w' := by
  obtain ⟨R, p1, p2⟩ := hp.picks
  obtain ⟨S1, S2, hd, l1, l2, hA, hR⟩ := p1.to hw.heap
  rcases hA with ⟨rfl, _⟩ | ⟨b, o, c, l, rfl, hn, hc, hS, hl, rfl⟩
  · rw [Nat.zero_mul] at hk; omega
  · have hnc : n * z ≤ c * z := Nat.mul_le_mul_right z hn
    obtain ⟨w', hr, a1, a2, a3, a4, a5, a6⟩ := run_storeCells (P := P) (T := E) zs 0 (o + k) l w (l1 _ _ hS) (by rw [Nat.add_zero]; omega) (ones_ok h1)
    rw [Nat.add_zero] at a5
    refine ⟨⟨b, o + k, none⟩, w', by simp [elA, add_none], hr, ?_⟩
    refine ⟨a1.trans hw.os, a2.trans hw.tape, a3.trans hw.output, a4 ▸ hw.size, p2.back ?_⟩
    have hS2 : S2 b = none := by
      rcases hd b with h0 | h0
      · rw [hS] at h0; cases h0
      · exact h0
    refine ⟨fun i => if i = b then some (.cells (splice l (o + k) zs).toArray E (0, 0)) else none, S2, fun i => ?_, fun i x hx => ?_, fun i x hx => ?_, .inr ⟨b, o, c, splice l (o + k) zs, rfl, hn, hc, by simp, ?_, ?_⟩, hR⟩
    · by_cases hi : i = b
      · subst hi; exact .inr hS2
      · left; simp [hi]
    · by_cases hi : i = b
      · subst hi; simp at hx; subst hx; exact a5
      · simp [hi] at hx
    · have hi : i ≠ b := fun e => by subst e; rw [hS2] at hx; cases hx
      show w'.heap[i]? = some x
      rw [a6 i hi]; exact l2 i x hx
    · rw [splice_len _ _ _ (by omega)]; exact hl
    · have hlen : ((l.drop o).take (n * z)).length = n * z := by simp; omega
      apply List.ext_getElem?
      intro i
      rw [splice_get _ _ _ (by rw [hlen]; exact hk), td_get, td_get, splice_get _ _ _ (by omega)]
      by_cases hi : i < n * z
      · simp only [if_pos hi]
        by_cases h2 : i < k
        · rw [if_pos h2, if_pos (show o + i < o + k by omega)]
        · rw [if_neg h2, if_neg (show ¬ o + i < o + k by omega)]
          by_cases h3 : i < k + zs.length
          · rw [if_pos h3, if_pos (show o + i < o + k + zs.length by omega)]; congr 1; omega
          · rw [if_neg h3, if_neg (show ¬ o + i < o + k + zs.length by omega)]
      · rw [if_neg (show ¬ i < k by omega), if_neg (show ¬ i < k + zs.length by omega), if_neg hi, if_neg hi]
/-- A store of one cell of an element. -/
theorem h_store_own {T E k z n m : Nat} {x v : Operand} {u a : Value} {cs zs : List Value} {N : List HP} {K : Value → List HP → Prop} (hT : szOf P T = some m) (hx : ev Γ x = some (elA u k)) (hv : ev Γ v = some a) (hz : a.cells = zs.toArray) (hm : zs.length = m) (h0 : 0 < m) (h1 : ones zs = true)
    (hk : k + m ≤ n * z) (hp : Put L (Own E z u n cs) (Own E z u n (splice cs k zs)) N) (hK : K (.tuple #[]) N) : HO P r g ⟨dst, .store T x v, t, pos, aft, gd⟩ Γ L K :=
  HO.run_skip (by simp) fun a' w ha hw => by
    obtain ⟨p, w', e, hr, hw'⟩ := own_store (P := P) hw hp (by omega) (by omega) h1
    refine ⟨N, w', ?_, hK, hw'⟩
    simp [execOp, ev_ok hx ha, ev_ok hv ha, e, Instr.storeAt, Instr.sureAddr, storeVar, run_sizeOf hT, hz, hm, hr]
theorem flat_set {α : Type} {z : Nat} {enc : α → List Value} (he : EncOk z enc) : ∀ (xs : List α) (j : Nat) (a : α), j < xs.length → splice (xs.flatMap enc) (j * z) (enc a) = (xs.set j a).flatMap enc := fun xs j a hj => by
  have hle : (j + 1) * z ≤ xs.length * z := Nat.mul_le_mul_right z hj
  have e1 : (j + 1) * z = j * z + z := by rw [Nat.add_mul]; omega
  rw [splice_eq _ _ _ (by rw [flat_len he, he.len]; omega), he.len, ← e1, flat_take he, flat_drop he, List.set_eq_take_append_cons_drop]
  simp [hj]
/-- A whole element is stored. -/
theorem hl_store {α : Type} {T E z j : Nat} {x v : Operand} {u b : Value} {xs : List α} {enc : α → List Value} {N : List HP} {K : Value → List HP → Prop} (a : α) (hT : szOf P T = some z) (he : EncOk z enc) (hj : j < xs.length) (hK : K (.tuple #[]) N) (hz : 0 < z := by decide) (hx : ev Γ x = some (elA u (j * z)) := by rfl) (hv : ev Γ v = some b := by rfl) (hb : b.cells = (enc a).toArray := by rfl)
    (hp : Put L (Sl E z enc u xs) (Sl E z enc u (xs.set j a)) N := by repeat first | exact .z | apply Put.s) : HO P r g ⟨dst, .store T x v, t, pos, aft, gd⟩ Γ L K := by
  have hle : (j + 1) * z ≤ xs.length * z := Nat.mul_le_mul_right z hj
  have e1 : (j + 1) * z = j * z + z := by rw [Nat.add_mul]; omega
  refine h_store_own (E := E) (cs := xs.flatMap enc) hT hx hv hb (he.len a) hz (he.one a) (n := xs.length) (z := z) (by omega) ?_ hK
  rw [flat_set he xs j a hj]
  have : Sl E z enc u (xs.set j a) = Own E z u xs.length ((xs.set j a).flatMap enc) := by unfold Sl; rw [List.length_set]
  rw [← this]; exact hp

end
end Go.SL

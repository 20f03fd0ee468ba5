/- Bytes that were written are read back: numbers, texts, changes. -/
import Derived.Test.YtdfomffmfnpfoaaGreatMF
set_option linter.unusedSimpArgs false
set_option linter.unusedVariables false
namespace Go.SL
open Go
theorem be_step (m : UInt32) (c : UInt8) (h : m.toNat < 16777216) : ((m <<< 8) ||| c.toUInt32).toNat = m.toNat * 256 + c.toNat := by
  have hc := c.toNat_lt
  have e1 : (m <<< 8).toNat = m.toNat <<< 8 := by
    rw [UInt32.toNat_shiftLeft, Nat.mod_eq_of_lt]
    · rfl
    · show m.toNat <<< 8 < _
      rw [Nat.shiftLeft_eq]; omega
  rw [UInt32.toNat_or, e1, UInt8.toNat_toUInt32, ← Nat.shiftLeft_add_eq_or_of_lt (by omega), Nat.shiftLeft_eq]
theorem beN_one (c : UInt8) : (beN [c]).toNat = c.toNat := by
  have := be_step 0 c (by decide)
  simp [beN]
theorem beN_snoc (l : List UInt8) (c : UInt8) : beN (l ++ [c]) = (beN l <<< 8) ||| c.toUInt32 := by simp [beN]
theorem beN_two (a b : UInt8) : (beN [a, b]).toNat = a.toNat * 256 + b.toNat := by
  rw [show [a, b] = [a] ++ [b] from rfl, beN_snoc, be_step _ _ (by rw [beN_one]; have := a.toNat_lt; omega), beN_one]
theorem beN_three (a b c : UInt8) : (beN [a, b, c]).toNat = (a.toNat * 256 + b.toNat) * 256 + c.toNat := by
  have := a.toNat_lt; have := b.toNat_lt
  rw [show [a, b, c] = [a, b] ++ [c] from rfl, beN_snoc, be_step _ _ (by rw [beN_two]; omega), beN_two]
theorem beN_four (a b c d : UInt8) : (beN [a, b, c, d]).toNat = ((a.toNat * 256 + b.toNat) * 256 + c.toNat) * 256 + d.toNat := by
  have := a.toNat_lt; have := b.toNat_lt; have := c.toNat_lt
  rw [show [a, b, c, d] = [a, b, c] ++ [d] from rfl, beN_snoc, be_step _ _ (by rw [beN_three]; omega), beN_three]
theorem beN_num1 (n : Nat) (h : n < 256) : (beN [UInt8.ofNat n]).toNat = n := by
  rw [beN_one, UInt8.toNat_ofNat']; exact Nat.mod_eq_of_lt h
theorem beN_num2 (n : UInt32) (h : n.toNat < 65536) : beN (numB n 2) = n := by
  apply UInt32.toNat_inj.1
  show (beN [_, _]).toNat = _
  rw [beN_two, UInt8.toNat_ofNat', UInt8.toNat_ofNat']
  simp only [Nat.reduceMul, Nat.reducePow, Nat.pow_zero, Nat.div_one]
  omega
theorem beN_num4 (n : UInt32) : beN (numB n 4) = n := by
  apply UInt32.toNat_inj.1
  have := n.toNat_lt
  show (beN [_, _, _, _]).toNat = _
  rw [beN_four, UInt8.toNat_ofNat', UInt8.toNat_ofNat', UInt8.toNat_ofNat', UInt8.toNat_ofNat']
  simp only [Nat.reduceMul, Nat.reducePow, Nat.pow_zero, Nat.div_one]
  omega
theorem textOf_bytes (s : ByteArray) : textOf (bytesOf s) = s := by
  cases s; simp [textOf, bytesOf]
theorem chg_size {c : ChgM} (h : chgOk c = true) : c.key.size < 256 := by
  unfold chgOk at h
  simp at h
  have := h.1
  unfold keyOk at this; simp at this; omega
theorem gone_back (c : ChgM) : (beN [if c.gone then (1 : UInt8) else 0] == 1) = c.gone := by cases c.gone <;> rfl
theorem drop_cons {α : Type} {l : List α} {i : Nat} {x : α} (h : l[i]? = some x) : l.drop i = x :: l.drop (i + 1) := by
  have hlt := idx_lt h
  rw [List.getElem?_eq_getElem hlt] at h; cases h
  exact (List.getElem_cons_drop hlt).symm
theorem w_u32 {x : Int} (h1 : 0 ≤ x) (h2 : x < 4294967296) : IntKind.u32.wrap x = x := by
  simp [IntKind.wrap, IntKind.bits, IntKind.signed]; omega
theorem four_back (n : UInt32) : ((((UInt8.ofNat (n.toNat / 2 ^ 24)).toUInt32 <<< 24 ||| (UInt8.ofNat (n.toNat / 2 ^ 16)).toUInt32 <<< 16) ||| (UInt8.ofNat (n.toNat / 2 ^ 8)).toUInt32 <<< 8) ||| (UInt8.ofNat n.toNat).toUInt32) = n := by
  have hn := n.toNat_lt
  have sh : ∀ (c : UInt8) (m : UInt32) (k : Nat), m.toNat = k → k ≤ 24 → (c.toUInt32 <<< m).toNat = c.toNat <<< k := fun c m k hm hk => by
    have hc := c.toNat_lt
    rw [UInt32.toNat_shiftLeft, UInt8.toNat_toUInt32, hm, Nat.mod_eq_of_lt (show k < 32 by omega)]
    apply Nat.mod_eq_of_lt
    rw [Nat.shiftLeft_eq]
    calc c.toNat * 2 ^ k ≤ 255 * 2 ^ 24 := Nat.mul_le_mul (by omega) (Nat.pow_le_pow_right (by decide) hk)
      _ < _ := by decide
  have h0 := (UInt8.ofNat (n.toNat / 2 ^ 24)).toNat_lt
  have h1 := (UInt8.ofNat (n.toNat / 2 ^ 16)).toNat_lt
  have h2 := (UInt8.ofNat (n.toNat / 2 ^ 8)).toNat_lt
  have h3 := (UInt8.ofNat n.toNat).toNat_lt
  apply UInt32.toNat_inj.1
  rw [UInt32.toNat_or, UInt32.toNat_or, UInt32.toNat_or, sh _ 24 24 rfl (by decide), sh _ 16 16 rfl (by decide), sh _ 8 8 rfl (by decide), UInt8.toNat_toUInt32]
  have e0 : (UInt8.ofNat (n.toNat / 2 ^ 24)).toNat = n.toNat / 2 ^ 24 := by rw [UInt8.toNat_ofNat']; omega
  have e1 : (UInt8.ofNat (n.toNat / 2 ^ 16)).toNat = n.toNat / 2 ^ 16 % 256 := by rw [UInt8.toNat_ofNat']
  have e2 : (UInt8.ofNat (n.toNat / 2 ^ 8)).toNat = n.toNat / 2 ^ 8 % 256 := by rw [UInt8.toNat_ofNat']
  have e3 : (UInt8.ofNat n.toNat).toNat = n.toNat % 256 := by rw [UInt8.toNat_ofNat']
  rw [e0, e1, e2, e3]
  have a1 : (n.toNat / 2 ^ 24) <<< 24 ||| (n.toNat / 2 ^ 16 % 256) <<< 16 = (n.toNat / 2 ^ 16) <<< 16 := by
    rw [← Nat.shiftLeft_add_eq_or_of_lt (by rw [Nat.shiftLeft_eq]; omega), Nat.shiftLeft_eq, Nat.shiftLeft_eq, Nat.shiftLeft_eq]; omega
  have a2 : (n.toNat / 2 ^ 16) <<< 16 ||| (n.toNat / 2 ^ 8 % 256) <<< 8 = (n.toNat / 2 ^ 8) <<< 8 := by
    rw [← Nat.shiftLeft_add_eq_or_of_lt (by rw [Nat.shiftLeft_eq]; omega), Nat.shiftLeft_eq, Nat.shiftLeft_eq, Nat.shiftLeft_eq]; omega
  rw [a1, a2, ← Nat.shiftLeft_add_eq_or_of_lt (by omega), Nat.shiftLeft_eq]; omega
/-! a store is opened again -/
abbrev RecG := UInt32 × List ChgM
def recB (y : RecG) : List UInt8 := numB y.1 4 ++ chgsB y.2
def recOk (y : RecG) : Prop := y.2.length ≤ 4096 ∧ ∀ c ∈ y.2, chgOk c = true
def reOne (s : GamV) (y : RecG) : GamV := { s with rows := changeR s.rows y.2, nums := keptG s.nums y.1 y.2, last := if s.last < y.1 then y.1 else s.last }
def reAll (s : GamV) (ys : List RecG) : GamV := ys.foldl reOne s
theorem reAll_take (s : GamV) {ys : List RecG} {i : Nat} {y : RecG} (h : ys[i]? = some y) : reAll s (ys.take (i + 1)) = reOne (reAll s (ys.take i)) y := by
  rw [take_snoc h]; simp [reAll]
theorem re_rows (s : GamV) (h0 : s.rows = []) : ∀ (ys : List RecG) (i : Nat), Rising (reAll s (ys.take i)).rows ∧ (reAll s (ys.take i)).rows.length ≤ ((ys.take i).map (fun y => y.2.length)).sum
  | ys, 0 => by simp [reAll, h0, Rising]
  | ys, i + 1 => by
    obtain ⟨h1, h2⟩ := re_rows s h0 ys i
    rcases Nat.lt_or_ge i ys.length with h | h
    · have hy : ys[i]? = some ys[i] := List.getElem?_eq_getElem h
      rw [reAll_take s hy, take_snoc hy]
      obtain ⟨h3, h4⟩ := changeR_rising ys[i].2 h1
      refine ⟨h3, ?_⟩
      simp only [reOne, List.map_append, List.sum_append, List.map_cons, List.map_nil, List.sum_cons, List.sum_nil]
      omega
    · rw [List.take_of_length_le h] at h1 h2
      rw [List.take_of_length_le (by omega)]; exact ⟨h1, h2⟩
theorem sum_take {l : List Nat} (i : Nat) {x : Nat} (h : l[i]? = some x) : (l.take i).sum + x ≤ l.sum := by
  have hlt := idx_lt h
  rw [List.getElem?_eq_getElem hlt] at h; cases h
  have e : l = l.take i ++ l[i] :: l.drop (i + 1) := by rw [List.getElem_cons_drop, List.take_append_drop]
  have h2 := congrArg List.sum e
  rw [List.sum_append, List.sum_cons] at h2
  omega
section
variable {P : Program} {g : World} {Γ : Env} {L : List HP}
theorem e_max32 {dst : Option Tmp} {t : TypeId} {pos : String} {aft : Array Edge} {gd : Option (Nat × Bool)} {x y : Operand} {T U : TypeId} {a b : UInt32} (hx : ev Γ x = some (.int .u32 a.toNat) := by rfl) (hy : ev Γ y = some (.int .u32 b.toNat) := by rfl) : EO P g ⟨dst, .call ⟨.builtin .max, #[x, y], #[T, U]⟩, t, pos, aft, gd⟩ Γ L (.int .u32 (if a < b then b else a).toNat) := by
  have h := e_maxI (P := P) (g := g) (L := L) (dst := dst) (t := t) (pos := pos) (aft := aft) (gd := gd) (T := T) (U := U) hx hy
  have e : (if (a.toNat : Int) < b.toNat then (b.toNat : Int) else a.toNat) = ((if a < b then b else a).toNat : Nat) := by
    by_cases h : a < b
    · rw [if_pos h, if_pos (by have := UInt32.lt_iff_toNat_lt.1 h; omega)]
    · rw [if_neg h, if_neg (by intro h'; exact h (UInt32.lt_iff_toNat_lt.2 (by omega)))]
  rw [← e]; exact h
end
theorem rds_mono {S T : Piece} {z n : Nat} {u : Value} {cs : List Value} (h : RdS S z u n cs) (hl : le S T) : RdS T z u n cs := by
  rcases h with h | ⟨b, o, c, l, t, h1, h2, h3, h4, h5⟩
  · exact .inl h
  · exact .inr ⟨b, o, c, l, t, h1, h2, hl _ _ h3, h4, h5⟩
theorem mem_stars {A : HP} {L : List HP} (h : A ∈ L) : ∀ S, stars L S → ∃ T, le T S ∧ A T := by
  induction L with
  | nil => cases h
  | cons B L ih =>
    rintro S ⟨S1, S2, _, h1, h2, h3, h4⟩
    rcases List.mem_cons.1 h with rfl | h
    · exact ⟨S1, h1, h3⟩
    · obtain ⟨T, h5, h6⟩ := ih h S2 h4
      exact ⟨T, le_trans h5 h2, h6⟩
section
variable {P : Program} {g : World} {Γ : Env} {L : List HP} {dst : Option Tmp} {t : TypeId} {pos : String} {aft : Array Edge} {gd : Option (Nat × Bool)}
theorem e_idxS {x i : Operand} {T : TypeId} {s : ByteArray} {k : IntKind} {b : UInt8} {n : Nat} (ht : P.underlying T = some .string) (hi : ev Γ i = some (.int k n) := by rfl) (hx : ev Γ x = some (.string s) := by rfl) (hb : s[n]? = some b := by rfl) : EO P g ⟨dst, .index T x i, t, pos, aft, gd⟩ Γ L (.int .u8 b.toNat) :=
  .of (by simp) fun ρ hρ w hw => by
    simp [execOp, hρ x _ (by simp [Op.operands]) hx, hρ i _ (by simp [Op.operands]) hi, Instr.index, asIntOf, run_underlying ht, hb]
end
theorem getF_frame {r : List UInt8} (h : r.length ≤ 16384) (rest : List UInt8) : getF (frame r ++ rest) = some (r, secs r.length) := by
  have hs := secs_le r.length
  have hl := frame_len r
  have hn : (UInt32.ofNat r.length).toNat = r.length := by rw [UInt32.toNat_ofNat']; exact Nat.mod_eq_of_lt (by omega)
  have e4 : (frame r ++ rest).take 4 = numB (UInt32.ofNat r.length) 4 := by
    unfold frame
    rw [List.append_assoc, List.append_assoc, List.append_assoc]
    exact List.take_left' (numB_len _ _)
  have e8 : (frame r ++ rest).drop 8 = r ++ (List.replicate (secs r.length * 64 - 8 - r.length) 0 ++ rest) := by
    unfold frame
    rw [List.append_assoc, List.append_assoc]
    exact List.drop_left' (by simp [numB_len])
  have er : ((frame r ++ rest).drop 8).take r.length = r := by rw [e8]; exact List.take_left' rfl
  have ef : (frame r ++ rest).take (secs r.length * 64) = frame r := List.take_left' hl
  unfold getF
  rw [if_neg (by rw [List.length_append, hl]; omega)]
  simp only [e4, beN_num4, hn, er, ef]
  rw [if_neg (by omega), if_neg (by rw [List.length_append, hl]; omega), if_pos trivial]
theorem recs_frames : ∀ (ys : List RecG) (rest : List UInt8), (∀ y ∈ ys, (recB y).length ≤ 16384) → recs rest = [] → recs ((ys.flatMap fun y => frame (recB y)) ++ rest) = ys.map fun y => (recB y, secs (recB y).length)
  | [], rest, _, h => by simpa using h
  | y :: ys, rest, hy, h => by
    have ih := recs_frames ys rest (fun z hz => hy z (by simp [hz])) h
    rw [List.flatMap_cons, List.append_assoc, recs_some (getF_frame (hy y (by simp)) _), List.drop_left' (frame_len _), ih]
    rfl
theorem flat_take64 : ∀ (l : List (List UInt8)) (i : Nat), (∀ p ∈ l, p.length = 64) → (l.take i).flatten = l.flatten.take (i * 64)
  | l, 0, _ => by simp
  | [], i + 1, _ => by simp
  | p :: l, i + 1, h => by
    have hp := h p (by simp)
    rw [List.take_succ_cons, List.flatten_cons, List.flatten_cons, flat_take64 l i (fun q hq => h q (by simp [hq])), List.take_append, hp, show (i + 1) * 64 - 64 = i * 64 by omega, List.take_of_length_le (l := p) (by omega)]
theorem flat_drop64 : ∀ (l : List (List UInt8)) (i : Nat), (∀ p ∈ l, p.length = 64) → (l.drop i).flatten = l.flatten.drop (i * 64)
  | l, 0, _ => by simp
  | [], i + 1, _ => by simp
  | p :: l, i + 1, h => by
    have hp := h p (by simp)
    rw [List.drop_succ_cons, List.flatten_cons, flat_drop64 l i (fun q hq => h q (by simp [hq])), List.drop_append, hp, show (i + 1) * 64 - 64 = i * 64 by omega, List.drop_of_length_le (l := p) (by omega), List.nil_append]
theorem addW_flat : ∀ (k : Nat) (d : DiskM) (i : Nat) (b : List UInt8), b.length = k * 64 → i + k ≤ d.seen.length → (addW d i b k).seen.flatten = (d.seen.take i).flatten ++ b ++ (d.seen.drop (i + k)).flatten ∧ (addW d i b k).seen.length = d.seen.length
  | 0, d, i, b, hb, hi => by
    have : b = [] := by simpa using hb
    subst this
    refine ⟨?_, rfl⟩
    show d.seen.flatten = _
    rw [List.append_nil, ← List.flatten_append, Nat.add_zero, List.take_append_drop]
  | k + 1, d, i, b, hb, hi => by
    have h1 : (b.take 64).length = 64 := by simp; omega
    have hw : (d.write i (b.take 64)).seen = d.seen.set i (b.take 64) := by simp [DiskM.write, pad_id h1]
    obtain ⟨e1, e2⟩ := addW_flat k (d.write i (b.take 64)) (i + 1) (b.drop 64) (by simp; omega) (by rw [hw, List.length_set]; omega)
    rw [hw] at e1 e2
    refine ⟨?_, by rw [addW, e2, List.length_set]⟩
    rw [addW, e1, List.drop_set_of_lt (by omega), show i + 1 + k = i + (k + 1) by omega]
    congr 1
    have e3 : (d.seen.set i (b.take 64)).take (i + 1) = d.seen.take i ++ [b.take 64] := by
      rw [take_snoc (List.getElem?_set_self (by omega)), List.take_set_of_le (Nat.le_refl i)]
    rw [e3, List.flatten_append, List.append_assoc]
    congr 1
    simp
theorem recs_zeros (n : Nat) : recs (List.replicate (n * 64) 0) = [] := by
  cases n with
  | zero => rfl
  | succ n => exact recs_zero _ (by omega)
structure DiskLog (d : DiskM) (at0 : Nat) (ys : List RecG) : Prop where
  ok : d.ok
  waits : d.waits = []
  same : d.sure = d.seen
  len : d.sure.length = 4096
  flat : d.seen.flatten = (ys.flatMap fun y => frame (recB y)) ++ List.replicate ((4096 - at0) * 64) 0
  hat : (ys.map fun y => secs (recB y).length).sum = at0
  le : at0 ≤ 4096
  yok : ∀ y ∈ ys, recOk y ∧ (recB y).length ≤ 16384
theorem frames_len : ∀ (ys : List RecG), (ys.flatMap fun y => frame (recB y)).length = (ys.map fun y => secs (recB y).length).sum * 64
  | [] => rfl
  | y :: ys => by rw [List.flatMap_cons, List.length_append, frames_len ys, frame_len]; simp; omega
theorem clean_id (all : List UInt8) (d : DiskM) (lo : Nat) : ∀ k, (∀ j, j < k → (all.drop ((lo + j) * 64)).take 64 = List.replicate 64 0) → cleanTo all d lo k = d
  | 0, _ => rfl
  | k + 1, h => by rw [cleanTo, if_pos (h k (by omega))]; exact clean_id all d lo k fun j hj => h j (by omega)
theorem DiskLog.recs {d : DiskM} {at0 : Nat} {ys : List RecG} (h : DiskLog d at0 ys) : (SL.recs d.seen.flatten).map (·.1) = ys.map recB ∧ ((SL.recs d.seen.flatten).map (·.2)).sum = at0 ∧ cleanTo d.seen.flatten d at0 (d.sure.length - at0) = d := by
  have hr : SL.recs d.seen.flatten = ys.map fun y => (recB y, secs (recB y).length) := by
    rw [h.flat]
    exact recs_frames ys _ (fun y hy => (h.yok y hy).2) (recs_zeros _)
  refine ⟨by rw [hr]; simp, by rw [hr, ← h.hat]; simp [Function.comp_def], clean_id _ _ _ _ fun j hj => ?_⟩
  have hl := h.len
  rw [h.flat, List.drop_append, frames_len, h.hat, List.drop_of_length_le (by rw [frames_len, h.hat]; omega), List.nil_append, List.drop_replicate, List.take_replicate]
  congr 1
  omega
theorem DiskLog.fail {d : DiskM} {at0 : Nat} {ys : List RecG} (h : DiskLog d at0 ys) : (⟨d.sure, d.sure, []⟩ : DiskM) = d := by
  have h1 := h.same; have h2 := h.waits
  cases d; simp only at h1 h2 ⊢; subst h1 h2; rfl
theorem DiskLog.sync {d : DiskM} {at0 : Nat} {ys : List RecG} (h : DiskLog d at0 ys) : d.sync = d := by
  have h1 := h.same; have h2 := h.waits
  cases d; simp only [DiskM.sync] at h1 h2 ⊢; subst h1 h2; rfl
theorem DiskLog.first : DiskLog (newDisk 4096).sync 0 [] :=
  ⟨newDisk_quiet.ok.sync, rfl, rfl, List.length_replicate, by show (newDisk 4096).seen.flatten = _; rw [new_flat]; rfl, rfl, Nat.zero_le _, by simp⟩
theorem DiskLog.add {d : DiskM} {at0 : Nat} {ys : List RecG} (h : DiskLog d at0 ys) {y : RecG} (hy : recOk y) (hl : (recB y).length ≤ 16384) (hfit : at0 + secs (recB y).length ≤ d.sure.length) : DiskLog (addW d at0 (frame (recB y)) (secs (recB y).length)).sync (at0 + secs (recB y).length) (ys ++ [y]) := by
  have hlen := h.len
  have hsl := h.ok.len
  obtain ⟨e1, e2⟩ := addW_flat (secs (recB y).length) d at0 (frame (recB y)) (frame_len _) (by omega)
  have hfr : (ys.flatMap fun y => frame (recB y)).length = at0 * 64 := by rw [frames_len, h.hat]
  refine ⟨(addW_ok _ _ _ _ h.ok).sync, rfl, rfl, by show (addW _ _ _ _).seen.length = _; rw [e2]; omega, ?_, by rw [List.map_append, List.sum_append, h.hat]; simp, by omega, fun z hz => ?_⟩
  · show (addW _ _ _ _).seen.flatten = _
    rw [e1, flat_take64 _ _ h.ok.l2, flat_drop64 _ _ h.ok.l2, h.flat, List.take_left' hfr, List.drop_append, List.drop_of_length_le (by rw [hfr]; omega), List.nil_append, hfr, List.drop_replicate, List.flatMap_append]
    simp only [List.flatMap_cons, List.flatMap_nil, List.append_nil]
    congr 2
    omega
  · rcases List.mem_append.1 hz with hz | hz
    · exact h.yok z hz
    · simp at hz; subst hz; exact ⟨hy, hl⟩
theorem reAll_rows : ∀ (ys : List RecG) (s : GamV), (reAll s ys).rows = changeR s.rows (ys.flatMap (·.2)) ∧ (reAll s ys).d = s.d ∧ (reAll s ys).at_ = s.at_ ∧ (reAll s ys).txs = s.txs
  | [], s => ⟨rfl, rfl, rfl, rfl⟩
  | y :: ys, s => by
    obtain ⟨h1, h2, h3, h4⟩ := reAll_rows ys (reOne s y)
    refine ⟨?_, h2, h3, h4⟩
    show (reAll (reOne s y) ys).rows = _
    rw [h1, List.flatMap_cons]
    simp [changeR, reOne]
structure SureI (i : Nat) (s : GamV) (ys : List RecG) : Prop where
  ok : GamOk s i
  log : DiskLog s.d s.at_ ys
  hrows : s.rows = changeR [] (ys.flatMap (·.2))
  sum : (ys.map fun y => y.2.length).sum ≤ i * 150
theorem SureI.first : SureI 0 (gam0 (newDisk 4096).sync) [] := ⟨gam0_ok newDisk_quiet, DiskLog.first, rfl, Nat.le_refl _⟩
theorem SureI.same {i : Nat} {s s' : GamV} {ys : List RecG} (h : SureI i s ys) (hok : GamOk s' (i + 1)) (h1 : s'.d = s.d) (h2 : s'.at_ = s.at_) (h3 : s'.rows = s.rows) : SureI (i + 1) s' ys :=
  ⟨hok, by rw [h1, h2]; exact h.log, by rw [h3]; exact h.hrows, by have := h.sum; omega⟩
theorem SureI.com {i : Nat} {s : GamV} {ys : List RecG} (h : SureI i s ys) (hi : i ≤ 150) (n : UInt32) : ∃ ys', SureI (i + 1) (comG s n) ys' := by
  have hg := (h.ok.com n).mono (Nat.le_succ i) (by omega)
  cases hf : findT s.txs n with
  | none =>
    have e : comG s n = s := by simp [comG, hf]
    rw [e] at hg ⊢
    exact ⟨ys, h.same hg rfl rfl rfl⟩
  | some t =>
    by_cases hfit : fitsG s t
    · have hcom : comG s n = { endsG s n with d := (addW s.d s.at_ (frame (recG t)) (secs (recG t).length)).sync, at_ := s.at_ + secs (recG t).length, rows := changeR s.rows t.own, nums := keptG s.nums t.num t.own } := by simp only [comG, hf, commG, if_pos hfit]
      have ht := find_mem hf
      have hol := h.ok.own_le ht
      have hle : t.own.length ≤ 4096 := by
        rcases Nat.lt_or_ge 4096 t.own.length with h5 | h5
        · exact absurd hfit (not_fits (by omega))
        · exact h5
      have hl := h.log.add (y := (t.num, t.own)) ⟨hle, h.ok.own t ht⟩ hfit.1 hfit.2
      refine ⟨ys ++ [(t.num, t.own)], hg, ?_, ?_, ?_⟩
      · rw [hcom]; exact hl
      · rw [hcom]
        show changeR s.rows t.own = _
        rw [h.hrows, List.flatMap_append]
        simp [changeR]
      · have := h.sum
        simp; omega
    · have e : comG s n = endsG s n := by simp [comG, hf, commG, hfit]
      rw [e] at hg ⊢
      exact ⟨ys, h.same hg rfl rfl rfl⟩
section
variable {i : Nat} {s : GamV} {ys : List RecG}
theorem SureI.beg (h : SureI i s ys) (hi : i ≤ 150) (n : UInt32) (q : Nat) : SureI (i + 1) (begG s n q) ys := by
  have hg := (h.ok.beg n q).mono (Nat.le_succ i) (by omega)
  refine h.same hg ?_ ?_ ?_ <;> (unfold begG; split <;> rfl)
theorem SureI.abo (h : SureI i s ys) (hi : i ≤ 150) (n : UInt32) : SureI (i + 1) (aboG s n) ys := by
  have hg := (h.ok.abo n).mono (Nat.le_succ i) (by omega)
  refine h.same hg ?_ ?_ ?_ <;> (unfold aboG; split <;> rfl)
theorem SureI.err (h : SureI i s ys) (hi : i ≤ 150) {n : UInt32} {x : OpM} {s' : GamV} {e : Nat} (he : doG s n x = .err s' e) : SureI (i + 1) s' ys := by
  obtain ⟨_, h2 | h2⟩ := doG_err he
  · subst h2; exact h.same (h.ok.mono (Nat.le_succ i) (by omega)) rfl rfl rfl
  · subst h2; exact h.same ((h.ok.ends n).mono (Nat.le_succ i) (by omega)) rfl rfl rfl
theorem SureI.put (h : SureI i s ys) (hi : i ≤ 150) {n : UInt32} {x : OpM} {t : TxV} {c : ChgM} (hd : doG s n x = .put t c) (sv : SV) : SureI (i + 1) (putG s t.id c sv) ys := by
  obtain ⟨hx, hf, _, _, hp, _⟩ := doG_inv (.inl ⟨c, hd⟩)
  obtain ⟨hwx, hc⟩ := hp c hd
  exact h.same (h.ok.put (by omega) (find_mem hf) c (hc ▸ chgOf_ok hx hwx) sv) rfl rfl rfl
theorem SureI.look (h : SureI i s ys) (hi : i ≤ 150) (t : TxV) (p : SpanM) : SureI (i + 1) (lookG s t p) ys := h.same (h.ok.look (by omega) t p) rfl rfl rfl
end
end Go.SL

/- N4 N5 N6 VO: rules and walks, several texts in one. -/
import Derived.Test.YtdpmpcoekkhceaaGreatQN16
import Derived.Test.YtdpmpcoekkhceaaGreatProg
import Derived.KernelRfl
/- A store that looks back, in plain Lean. -/
set_option linter.unusedSimpArgs false
set_option linter.unusedVariables false
set_option linter.unusedSectionVars false
namespace Go.SL
open Go
def leastB (ts : List TxT) (m : UInt32) : UInt32 := ts.foldl (fun m t => if t.x.at_ < m then t.x.at_ else m) m
theorem leastB_spec : ∀ (ts : List TxT) (m : UInt32), leastB ts m ≤ m ∧ (∀ t ∈ ts, leastB ts m ≤ t.x.at_) ∧ (leastB ts m = m ∨ ∃ t ∈ ts, leastB ts m = t.x.at_)
  | [], m => ⟨UInt32.le_refl _, by simp, .inl rfl⟩
  | t :: ts, m => by
    obtain ⟨h1, h2, h3⟩ := leastB_spec ts (if t.x.at_ < m then t.x.at_ else m)
    have e1 : (if t.x.at_ < m then t.x.at_ else m) ≤ m ∧ (if t.x.at_ < m then t.x.at_ else m) ≤ t.x.at_ := by
      split
      · rename_i h; exact ⟨UInt32.le_of_lt h, UInt32.le_refl _⟩
      · rename_i h; exact ⟨UInt32.le_refl _, UInt32.not_lt.1 h⟩
    refine ⟨UInt32.le_trans h1 e1.1, fun u hu => ?_, ?_⟩
    · rcases List.mem_cons.1 hu with rfl | hu
      · exact UInt32.le_trans h1 e1.2
      · exact h2 u hu
    · show leastB ts _ = m ∨ _
      rcases h3 with h3 | ⟨u, hu, h3⟩
      · by_cases h : t.x.at_ < m
        · right; exact ⟨t, by simp, by show leastB ts _ = _; rw [h3, if_pos h]⟩
        · left; rw [h3, if_neg h]
      · right; exact ⟨u, by simp [hu], h3⟩
/-- The least of some is told by what is known of it. -/
theorem leastB_eq {ts : List TxT} {m a : UInt32} (h1 : a ≤ m) (h2 : ∀ t ∈ ts, a ≤ t.x.at_) (h3 : a = m ∨ ∃ t ∈ ts, a = t.x.at_) : leastB ts m = a := by
  obtain ⟨k1, k2, k3⟩ := leastB_spec ts m
  refine UInt32.le_antisymm ?_ ?_
  · rcases h3 with rfl | ⟨t, ht, rfl⟩
    · exact k1
    · exact k2 t ht
  · rcases k3 with e | ⟨t, ht, e⟩
    · rw [e]; exact h1
    · rw [e]; exact h2 t ht
def endsB (s : StV) (n : UInt32) : StV := { s with txs := delU s.txs n, trim := leastB (delU s.txs n) (UInt32.ofNat s.H.length) }
def doB (s : StV) (n : UInt32) (x : OpM) : DoS :=
  if opOk x then match findU s.txs n with
    | none => .err s 6
    | some t => if writes x then .put { s with txs := setU s.txs n { t.x with own := t.x.own ++ [chgOf x] } }
      else .look { s with txs := setU s.txs n { t.x with looked := t.x.looked ++ [spanOf x] } } (scanR (changeR (rowsN s.H t.x.at_.toNat) t.x.own) (spanOf x) 256)
  else .err s 1
def chkB (s : StV) (t : TX) : Bool := t.looked.any fun p => sinceH s.H t.at_.toNat p
def betaI : Kind := ⟨endsB, doB, chkB⟩
structure BetOk (s : StV) (b : Nat) : Prop where
  st : StOk s b
  trim : s.trim.toNat ≤ s.H.length
  ats : ∀ t ∈ s.txs, s.trim ≤ t.x.at_ ∧ t.x.at_.toNat ≤ s.H.length
def VB (s : StV) (o : Og) : Prop := ∀ t ∈ s.txs, t.x.own = chs (o t.id).1 ∧ (∀ x ∈ (o t.id).1, opOk x = true) ∧ (runM (rowsN s.H t.x.at_.toNat) (o t.id).1).1 = (o t.id).2 ∧ ∀ x ∈ (o t.id).1, writes x = false → spanOf x ∈ t.x.looked
theorem len32 {s : StV} {b : Nat} (h : StOk s b) : (UInt32.ofNat s.H.length).toNat = s.H.length := by
  have := h.hl; have := h.bb
  rw [UInt32.toNat_ofNat']; exact Nat.mod_eq_of_lt (by omega)
theorem ends_trim {s : StV} {b : Nat} (h : BetOk s b) (n : UInt32) : s.trim ≤ (endsB s n).trim ∧ (endsB s n).trim ≤ UInt32.ofNat s.H.length ∧ ∀ t ∈ delU s.txs n, (endsB s n).trim ≤ t.x.at_ := by
  obtain ⟨k1, k2, k3⟩ := leastB_spec (delU s.txs n) (UInt32.ofNat s.H.length)
  refine ⟨?_, k1, k2⟩
  show s.trim ≤ leastB _ _
  rcases k3 with e | ⟨t, ht, e⟩
  · rw [e, UInt32.le_iff_toNat_le, len32 h.st]; exact h.trim
  · rw [e]; exact (h.ats t (delU_sub.mem ht)).1
theorem BetOk.ends {s : StV} {b : Nat} (h : BetOk s b) (n : UInt32) : BetOk (endsB s n) b := by
  obtain ⟨h1, h2, h3⟩ := ends_trim h n
  refine ⟨h.st.sub rfl rfl rfl delU_sub, ?_, fun t ht => ⟨h3 t ht, (h.ats t (delU_sub.mem ht)).2⟩⟩
  rw [UInt32.le_iff_toNat_le, len32 h.st] at h2; exact h2
theorem BetOk.mono {s : StV} {b c : Nat} (h : BetOk s b) (hb : b ≤ c) (hc : c ≤ 1000000000) : BetOk s c := ⟨h.st.mono hb hc, h.trim, h.ats⟩
theorem BetOk.beg {s : StV} {b : Nat} (h : BetOk s b) (n : UInt32) (q : Nat) : BetOk (begS s n q) b := by
  have hs := h.st.beg n q
  refine ⟨hs, ?_, ?_⟩
  · unfold begS; split <;> exact h.trim
  · unfold begS
    split
    · intro t ht
      rcases List.mem_append.1 ht with ht | ht
      · exact h.ats t ht
      · simp at ht; subst ht
        have := len32 h.st
        exact ⟨by rw [UInt32.le_iff_toNat_le]; show _ ≤ (UInt32.ofNat s.H.length).toNat; rw [this]; exact h.trim, by show (UInt32.ofNat s.H.length).toNat ≤ s.H.length; omega⟩
    · exact h.ats
theorem BetOk.com {s : StV} {b : Nat} (h : BetOk s b) (hb : b + 1 ≤ 1000000000) (n : UInt32) : BetOk (comS betaI s n) (b + 1) := by
  have hm := h.mono (Nat.le_succ b) hb
  unfold comS
  cases hf : findU s.txs n with
  | none => exact hm
  | some t =>
    simp only
    split
    · exact hm.ends n
    · split
      · rename_i hfit
        have he := hm.ends n
        refine ⟨hm.st.add hf he.st rfl rfl rfl rfl (by have := h.st.hl; omega) hfit, ?_, fun u hu => ⟨(he.ats u hu).1, ?_⟩⟩
        · show _ ≤ (s.H ++ [_]).length
          have := he.trim; rw [List.length_append]; exact Nat.le_trans this (Nat.le_add_right _ _)
        · show _ ≤ (s.H ++ [_]).length
          have := (he.ats u hu).2; rw [List.length_append]; exact Nat.le_trans this (Nat.le_add_right _ _)
      · exact hm.ends n
theorem doB_inv {s : StV} {n : UInt32} {x : OpM} : (∃ e, doB s n x = .err s e ∧ e ≠ 0) ∨ ∃ t, findU s.txs n = some t ∧ opOk x = true ∧
    ((writes x = true ∧ doB s n x = .put { s with txs := setU s.txs n { t.x with own := t.x.own ++ [chgOf x] } }) ∨
     (writes x = false ∧ doB s n x = .look { s with txs := setU s.txs n { t.x with looked := t.x.looked ++ [spanOf x] } } (scanR (changeR (rowsN s.H t.x.at_.toNat) t.x.own) (spanOf x) 256))) := by
  unfold doB
  cases hx : opOk x with
  | false => left; exact ⟨1, by simp, by decide⟩
  | true =>
    cases hf : findU s.txs n with
    | none => left; exact ⟨6, by simp, by decide⟩
    | some t =>
      right
      refine ⟨t, rfl, rfl, ?_⟩
      cases hw : writes x <;> simp
theorem setU_ex {ts : List TxT} {n : UInt32} {x : TX} : ∀ t ∈ setU ts n x, ∃ u ∈ ts, t.id = u.id := fun t ht => by
  rcases setU_mem ht with ⟨u, hu, _, rfl⟩ | ⟨hu, _⟩
  · exact ⟨u, hu, rfl⟩
  · exact ⟨t, hu, rfl⟩
theorem BetOk.upd {s : StV} {b : Nat} (h : BetOk s b) (hb : b + 1 ≤ 1000000000) {n : UInt32} {t : TxT} (hf : findU s.txs n = some t) {x : TX} (ha : x.at_ = t.x.at_) (ho : x.own = t.x.own ∨ ∃ c, chgOk c = true ∧ x.own = t.x.own ++ [c]) (hl : x.looked.length ≤ b + 1) :
    BetOk { s with txs := setU s.txs n x } (b + 1) := by
  obtain ⟨hid, _⟩ := findU_mid hf
  have hm := findU_mem hf
  refine ⟨h.st.upd hb hm rfl rfl rfl (by rw [hid]) ho hl, h.trim, fun u hu => ?_⟩
  rcases setU_mem hu with ⟨v, hv, hvi, rfl⟩ | ⟨hu, _⟩
  · have := h.ats t hm; rw [← ha] at this; exact this
  · exact h.ats u hu
theorem uniqU {ts : List TxT} (hn : (ts.map (·.id)).Nodup) {n : UInt32} {t u : TxT} (hf : findU ts n = some t) (hu : u ∈ ts) (hi : u.id = n) : u = t := by
  have h1 := findU_of hn hu
  rw [hi, hf] at h1; exact (Option.some.inj h1).symm
theorem rows_since {H : List (List ChgM)} {a : Nat} {p : SpanM} (h : sinceH H a p = false) (r : RowM) (hr : inSpan p r.key = true) : r ∈ rowsN H a ↔ r ∈ rowsN H H.length := by
  have e : rowsN H H.length = changeR (rowsN H a) (H.drop a).flatten := by
    rw [rowsN_all]; unfold rowsN
    rw [← changeR_app, ← List.flatten_append, List.take_append_drop]
  rw [e]
  refine (mem_change_skip _ (rowsN_rising H a) fun c hc e => ?_).symm
  obtain ⟨cs, h1, h2⟩ := List.mem_flatten.1 hc
  unfold sinceH at h
  have h3 := List.any_eq_false.1 h cs h1
  rw [List.any_eq_true] at h3
  exact h3 ⟨c, h2, by rw [e]; exact hr⟩
def betaG : Good betaI where
  Ok := BetOk
  V := VB
  ok := fun h => h.st
  mono := fun h hb hc => h.mono hb hc
  beg := fun h n q => h.beg n q
  endsE := fun _ _ => ⟨rfl, rfl, rfl, rfl⟩
  ends := fun h n => h.ends n
  com := fun h hb n => h.com hb n
  err := fun {s b n x s' e} h he => by
    have he : doB s n x = .err s' e := he
    rcases doB_inv (s := s) (n := n) (x := x) with ⟨e', h1, h2⟩ | ⟨t, _, _, ⟨_, h1⟩ | ⟨_, h1⟩⟩ <;> rw [h1] at he
    · cases he; exact ⟨h2, rfl, rfl, rfl, fun t ht => ⟨t, ht, rfl⟩, h, fun _ h => h⟩
    · cases he
    · cases he
  put := fun {s b n x s'} h hb he => by
    have he : doB s n x = .put s' := he
    rcases doB_inv (s := s) (n := n) (x := x) with ⟨e', h1, h2⟩ | ⟨t, hf, hx, ⟨hw, h1⟩ | ⟨_, h1⟩⟩ <;> rw [h1] at he
    · cases he
    · cases he
      obtain ⟨hid, _⟩ := findU_mid hf
      refine ⟨t, findU_mem hf, hid, hx, hw, rfl, rfl, rfl, setU_ex, h.upd hb hf rfl (.inr ⟨_, chgOf_ok hx hw, rfl⟩) (Nat.le_succ_of_le (h.st.lks t (findU_mem hf))), fun o hv u hu => ?_⟩
      rcases setU_mem hu with ⟨v, hv', hvi, rfl⟩ | ⟨hu, hne⟩
      · obtain rfl := uniqU h.st.ids hf hv' hvi
        obtain ⟨k1, k2, k3, k4⟩ := hv v hv'
        simp only
        rw [hvi] at k1 k2 k3 k4 ⊢
        rw [setO_same]
        refine ⟨by rw [chs_snoc_w _ hw, k1], fun y hy => ?_, ?_, fun y hy hwy => ?_⟩
        · rcases List.mem_append.1 hy with hy | hy
          · exact k2 y hy
          · simp at hy; subst hy; exact hx
        · rw [runM_snoc, done_write hx hw]; simp only; rw [k3]
        · rcases List.mem_append.1 hy with hy | hy
          · exact k4 y hy hwy
          · simp at hy; subst hy; rw [hw] at hwy; cases hwy
      · rw [setO_other _ _ hne]; exact hv u hu
    · cases he
  look := fun {s b n x s' rows} h hb he => by
    have he : doB s n x = .look s' rows := he
    rcases doB_inv (s := s) (n := n) (x := x) with ⟨e', h1, h2⟩ | ⟨t, hf, hx, ⟨hw, h1⟩ | ⟨hw, h1⟩⟩ <;> rw [h1] at he
    · cases he
    · cases he
    · cases he
      obtain ⟨hid, _⟩ := findU_mid hf
      refine ⟨t, findU_mem hf, hid, hx, hw, rfl, rfl, rfl, setU_ex, h.upd hb hf rfl (.inl rfl) (by have := h.st.lks t (findU_mem hf); simp; omega), by unfold scanR; simp; omega, fun o hv u hu => ?_⟩
      rcases setU_mem hu with ⟨v, hv', hvi, rfl⟩ | ⟨hu, hne⟩
      · obtain rfl := uniqU h.st.ids hf hv' hvi
        obtain ⟨k1, k2, k3, k4⟩ := hv v hv'
        simp only
        rw [hvi] at k1 k2 k3 k4 ⊢
        rw [setO_same]
        refine ⟨by rw [chs_snoc_r _ hw, k1], fun y hy => ?_, ?_, fun y hy hwy => ?_⟩
        · rcases List.mem_append.1 hy with hy | hy
          · exact k2 y hy
          · simp at hy; subst hy; exact hx
        · rw [runM_snoc, run_left (rowsN_rising _ _) _ k2, done_read (changeR_rising _ (rowsN_rising _ _)).1 hx hw]; simp only; rw [k3, k1]
        · rcases List.mem_append.1 hy with hy | hy
          · exact List.mem_append_left _ (k4 y hy hwy)
          · simp at hy; subst hy; simp
      · rw [setO_other _ _ hne]; exact hv u hu
  vbeg := fun {s b o} h hv n q hE => by
    have hf := (begE_zero hE).2
    intro t ht
    rw [begS, if_pos hE] at ht ⊢
    rcases List.mem_append.1 ht with ht | ht
    · rw [setO_other _ _ (fun e => findU_none hf (List.mem_map.2 ⟨t, ht, e⟩))]; exact hv t ht
    · simp at ht; subst ht
      show [] = chs (setO o n ([], []) n).1 ∧ (∀ x ∈ (setO o n ([], []) n).1, _) ∧ (runM _ (setO o n ([], []) n).1).1 = (setO o n ([], []) n).2 ∧ ∀ x ∈ (setO o n ([], []) n).1, _
      rw [setO_same]; simp [chs, runM_nil]
  vends := fun h hv n t ht => hv t (delU_sub.mem ht)
  vcongr := fun hv ho t ht => by rw [← ho t ht]; exact hv t ht
  vown := fun hv t ht => ⟨(hv t ht).1, (hv t ht).2.1⟩
  vcom := fun {s b o n t} h hv hf hc hfit => by
    obtain ⟨hid, _⟩ := findU_mid hf
    obtain ⟨k1, k2, k3, k4⟩ := hv t (findU_mem hf)
    rw [hid] at k1 k2 k3 k4
    refine ⟨?_, fun u hu => ?_⟩
    · rw [← k3]
      refine run_agree s.rising (rowsN_rising _ _) _ k2 fun x hx hw r hr => ?_
      have : sinceH s.H t.x.at_.toNat (spanOf x) = false := by
        have hc : chkB s t.x = false := hc
        unfold chkB at hc
        have := List.any_eq_false.1 hc _ (k4 x hx hw)
        simpa using this
      exact (rows_since this r hr).symm
    · have hu' : u ∈ s.txs := delU_sub.mem hu
      obtain ⟨j1, j2, j3, j4⟩ := hv u hu'
      refine ⟨j1, j2, ?_, j4⟩
      show (runM (rowsN (s.H ++ [t.x.own]) _) _).1 = _
      rw [rowsN_old (h.ats u hu').2]; exact j3
def betaZ : Solo betaG where
  S := fun s n rows own => ∃ t, s.txs = [t] ∧ t.id = n ∧ t.x.own = own ∧ s.rows = rows ∧ t.x.at_.toNat = s.H.length
  txs := fun ⟨t, h1, h2, h3, h4, _⟩ => ⟨t, h1, h2, h3, h4⟩
  chk := fun {s n rows own b} ⟨t, h1, _, _, _, h5⟩ _ u hu => by
    rw [h1] at hu; simp at hu; subst hu
    show chkB s u.x = false
    unfold chkB
    rw [List.any_eq_false]
    intro p _
    unfold sinceH
    rw [h5, List.drop_length]; simp
  bad := fun hx => by show doB _ _ _ = _; unfold doB; rw [hx]; rfl
  put := fun {s n rows own b x} ⟨t, h1, h2, h3, h4, h5⟩ _ hx hw => by
    have hf : findU s.txs n = some t := by rw [h1]; simp [findU, h2]
    refine ⟨{ s with txs := setU s.txs n { t.x with own := t.x.own ++ [chgOf x] } }, by show doB _ _ _ = _; unfold doB; rw [hx, hf]; simp only [if_true, hw], { t with x := { t.x with own := t.x.own ++ [chgOf x] } }, ?_, h2, by simp [h3], h4, h5⟩
    simp [setU, h1, h2]
  look := fun {s n rows own b x} ⟨t, h1, h2, h3, h4, h5⟩ _ hx hw => by
    have hf : findU s.txs n = some t := by rw [h1]; simp [findU, h2]
    refine ⟨{ s with txs := setU s.txs n { t.x with looked := t.x.looked ++ [spanOf x] } }, ?_, { t with x := { t.x with looked := t.x.looked ++ [spanOf x] } }, ?_, h2, h3, h4, h5⟩
    · show doB _ _ _ = _
      unfold doB; rw [hx, hf]; simp only [if_true, hw, Bool.false_eq_true, if_false]
      rw [h5, h3, ← h4]; rfl
    · simp [setU, h1, h2]
  beg := fun {s b n} h ht hn q => by
    have hE : begE s n = 0 := by simp [begE, hn, ht, findU]
    refine ⟨begT s n q, by rw [begS, if_pos hE, ht]; rfl, rfl, rfl, by rw [begS, if_pos hE]; rfl, ?_⟩
    rw [begS, if_pos hE]; exact len32 h.st
end Go.SL
/- A store that looks back, in plain Lean: what a transaction sees, out of the order of a map. -/
set_option linter.unusedSimpArgs false
set_option linter.unusedVariables false
set_option linter.unusedSectionVars false
namespace Go.SL
open Go Go.Proofs Go.Sort
/-! what a key has last -/
section
variable {κ β : Type} [DecidableEq κ]
def aget (l : List (κ × β)) (k : κ) : Option β := (l.find? fun p => decide (p.1 = k)).map (·.2)
def aset (l : List (κ × β)) (k : κ) (b : β) : List (κ × β) := match l.findIdx? (fun p => decide (p.1 = k)) with
  | some i => l.set i (k, b)
  | none => l ++ [(k, b)]
theorem mget_a (f : β → Value) (l : List (κ × β)) (k : κ) : mget (l.map fun p => (p.1, f p.2)) k = (aget l k).map f := by
  unfold mget aget
  rw [List.find?_map]
  simp only [Option.map_map]
  rfl
theorem mset_a (f : β → Value) (l : List (κ × β)) (k : κ) (b : β) : mset (l.map fun p => (p.1, f p.2)) k (f b) = (aset l k b).map fun p => (p.1, f p.2) := by
  have h : midx (l.map fun p => (p.1, f p.2)) k = l.findIdx? (fun p => decide (p.1 = k)) := by
    unfold midx; rw [List.findIdx?_map]; rfl
  unfold mset aset
  rw [h]
  cases List.findIdx? (fun p : κ × β => decide (p.1 = k)) l with
  | none => simp
  | some i => simp [List.map_set]
theorem aset_get (l : List (κ × β)) (k : κ) (b : β) (j : κ) : aget (aset l k b) j = if j = k then some b else aget l j := by
  unfold aset aget
  induction l with
  | nil =>
    by_cases h : j = k
    · subst h; simp
    · simp [h, Ne.symm h]
  | cons x l ih =>
    rw [List.findIdx?_cons]
    by_cases hx : x.1 = k
    · simp only [hx, decide_true, if_true, List.set_cons_zero, List.find?_cons]
      by_cases h : j = k
      · subst h; simp
      · have h' : ¬ k = j := fun e => h e.symm
        simp [h, h']
    · simp only [hx, decide_false, Bool.false_eq_true, if_false]
      cases hf : List.findIdx? (fun p : κ × β => decide (p.1 = k)) l with
      | none =>
        rw [hf] at ih
        simp only [Option.map_none, List.cons_append, List.find?_cons]
        by_cases h : x.1 = j
        · have : j ≠ k := fun e => hx (h.trans e)
          simp [h, this]
        · simp only [h, decide_false]; exact ih
      | some i =>
        rw [hf] at ih
        simp only [Option.map_some, List.set_cons_succ, List.find?_cons]
        by_cases h : x.1 = j
        · have : j ≠ k := fun e => hx (h.trans e)
          simp [h, this]
        · simp only [h, decide_false]; exact ih
theorem aset_nodup {l : List (κ × β)} (hn : (l.map (·.1)).Nodup) (k : κ) (b : β) : ((aset l k b).map (·.1)).Nodup := by
  unfold aset
  split
  · rename_i i hi
    have : (l.set i (k, b)).map (·.1) = l.map (·.1) := by
      rw [List.map_set]
      apply List.ext_getElem?
      intro j
      rw [List.getElem?_set]
      obtain ⟨h1, h2, _⟩ := List.findIdx?_eq_some_iff_getElem.1 hi
      split
      · rename_i e; subst e
        rw [if_pos (by simpa using h1)]
        simp only [List.getElem?_map, List.getElem?_eq_getElem h1, Option.map_some]
        simp at h2; rw [h2]
      · rfl
    rw [this]; exact hn
  · rename_i hi
    rw [List.map_append, List.nodup_append]
    refine ⟨hn, by simp, ?_⟩
    intro a ha b hb e
    simp at hb; subst hb; subst e
    obtain ⟨p, hp, rfl⟩ := List.mem_map.1 ha
    have := List.findIdx?_eq_none_iff.1 hi p hp
    simp at this
theorem aset_len (l : List (κ × β)) (k : κ) (b : β) : (aset l k b).length ≤ l.length + 1 := by
  unfold aset; split <;> simp
theorem aget_mem {l : List (κ × β)} (hn : (l.map (·.1)).Nodup) {p : κ × β} (h : p ∈ l) : aget l p.1 = some p.2 := by
  unfold aget
  induction l with
  | nil => cases h
  | cons x l ih =>
    rw [List.map_cons] at hn
    obtain ⟨h1, h2⟩ := List.nodup_cons.1 hn
    rw [List.find?_cons]
    rcases List.mem_cons.1 h with rfl | h
    · simp
    · have : x.1 ≠ p.1 := fun e => h1 (e ▸ List.mem_map.2 ⟨p, h, rfl⟩)
      simp only [this, decide_false]
      exact ih h2 h
theorem aget_some {l : List (κ × β)} {k : κ} {b : β} (h : aget l k = some b) : (k, b) ∈ l := by
  unfold aget at h
  rw [Option.map_eq_some_iff] at h
  obtain ⟨p, h1, rfl⟩ := h
  have h2 := List.find?_some h1
  have h3 := List.mem_of_find?_eq_some h1
  simp at h2; subst h2
  exact h3
end
abbrev Mine := List (ByteArray × ChgM)
def mineL (cs : List ChgM) : Mine := cs.foldl (fun l c => aset l c.key c) []
def kvC (p : ByteArray × ChgM) : ByteArray × Value := (p.1, p.2.v)
theorem mineL_snoc (cs : List ChgM) (c : ChgM) : mineL (cs ++ [c]) = aset (mineL cs) c.key c := by simp [mineL]
theorem mineL_ok : ∀ cs : List ChgM, ((mineL cs).map (·.1)).Nodup ∧ (mineL cs).length ≤ cs.length := by
  refine snoc_ind ⟨List.nodup_nil, Nat.le_refl _⟩ fun cs c ⟨h1, h2⟩ => ?_
  rw [mineL_snoc]
  refine ⟨aset_nodup h1 _ _, ?_⟩
  have := aset_len (mineL cs) c.key c
  rw [List.length_append, List.length_singleton]; omega
theorem mset_C (l : Mine) (c : ChgM) : mset (l.map kvC) c.key c.v = (aset l c.key c).map kvC := mset_a ChgM.v l c.key c
theorem mget_C (l : Mine) (k : ByteArray) : mget (l.map kvC) k = (aget l k).map ChgM.v := mget_a ChgM.v l k
/-- The rows with a transaction's own changes, key by key. -/
theorem getR_mine {V : List RowM} (hV : Rising V) (k : ByteArray) : ∀ cs : List ChgM, getR (changeR V cs) k = match aget (mineL cs) k with
    | some c => if c.gone then none else some c.val
    | none => getR V k := by
  refine snoc_ind rfl fun cs c ih => ?_
  rw [changeR_snoc, mineL_snoc, getR_apply (changeR_rising cs hV).1, aset_get]
  by_cases e : k = c.key
  · rw [if_pos e, if_pos e]
  · rw [if_neg e, if_neg e]; exact ih
def entL (sp : SpanM) (l : Mine) : List RowM := l.filterMap fun p => if !p.2.gone && inSpan sp p.1 then some ⟨p.1, p.2.val⟩ else none
theorem entL_mid (sp : SpanM) (A B : Mine) (p : ByteArray × ChgM) : entL sp (A ++ p :: B) = entL sp A ++ ((if !p.2.gone && inSpan sp p.1 then [⟨p.1, p.2.val⟩] else []) ++ entL sp B) := by
  unfold entL
  rw [List.filterMap_append, List.filterMap_cons]
  split
  · rename_i h
    split at h
    · cases h
    · rename_i h2; rw [if_neg h2]; rfl
  · rename_i b h
    split at h
    · rename_i h2; rw [if_pos h2]; cases h; rfl
    · cases h
theorem entL_app (sp : SpanM) (A B : Mine) : entL sp (A ++ B) = entL sp A ++ entL sp B := by unfold entL; rw [List.filterMap_append]
theorem entL_len (sp : SpanM) (l : Mine) : (entL sp l).length ≤ l.length := List.length_filterMap_le _ _
def baseL (V : List RowM) (sp : SpanM) (m : Mine) : List RowM := V.filter fun r => inSpan sp r.key && (aget m r.key).isNone
theorem entL_mem {sp : SpanM} {l : Mine} {r : RowM} : r ∈ entL sp l ↔ ∃ c, (r.key, c) ∈ l ∧ c.gone = false ∧ inSpan sp r.key = true ∧ r.val = c.val := by
  unfold entL
  rw [List.mem_filterMap]
  constructor
  · rintro ⟨p, h1, h2⟩
    split at h2
    · rename_i h3
      simp only [Bool.and_eq_true, Bool.not_eq_true'] at h3
      cases h2
      exact ⟨p.2, h1, h3.1, h3.2, rfl⟩
    · cases h2
  · rintro ⟨c, h1, h2, h3, h4⟩
    refine ⟨_, h1, ?_⟩
    rw [if_pos (by simp [h2, h3])]
    cases r; simp at h4; rw [h4]
/-- What comes out of the sort is what the transaction sees. -/
theorem look_sorted {V : List RowM} (hV : Rising V) (cs : List ChgM) (sp : SpanM) {ys : List RowM} (hp : ys.Perm (baseL V sp (mineL cs) ++ entL sp (mineL cs))) (hs : ys.Pairwise fun a b => sLt b.key a.key = false) : ys = (changeR V cs).filter fun r => inSpan sp r.key := by
  obtain ⟨hm, _⟩ := mineL_ok cs
  have hC := (changeR_rising cs hV).1
  have hmem : ∀ r, r ∈ ys ↔ r ∈ (changeR V cs).filter fun r => inSpan sp r.key := fun r => by
    rw [hp.mem_iff, List.mem_append, List.mem_filter, mem_getR hC, getR_mine hV]
    unfold baseL
    rw [List.mem_filter, entL_mem, Bool.and_eq_true, mem_getR hV]
    cases ha : aget (mineL cs) r.key with
    | none =>
      simp only [Option.isNone_none, and_true]
      constructor
      · rintro (h | ⟨c, h, _⟩)
        · exact h
        · rw [aget_mem hm h] at ha; cases ha
      · exact .inl
    | some c =>
      simp only [Option.isNone_some, Bool.false_eq_true, and_false, false_or]
      constructor
      · rintro ⟨d, h1, h2, h3, h4⟩
        have := aget_mem hm h1
        simp only at this
        rw [ha] at this; cases this
        exact ⟨by rw [h2]; simp [h4], h3⟩
      · rintro ⟨h1, h2⟩
        cases hg : c.gone with
        | true => rw [hg] at h1; simp at h1
        | false =>
          rw [hg] at h1
          simp at h1
          exact ⟨c, aget_some ha, hg, h2, h1.symm⟩
  refine rising_ext ?_ (hC.sublist List.filter_sublist) hmem
  -- no key comes twice
  have hnd : (ys.map (·.key)).Nodup := by
    rw [(hp.map _).nodup_iff, List.map_append, List.nodup_append]
    refine ⟨?_, ?_, ?_⟩
    · have h1 := hV.sublist (List.filter_sublist (p := fun r => inSpan sp r.key && (aget (mineL cs) r.key).isNone))
      rw [List.nodup_iff_pairwise_ne, List.pairwise_map]
      exact h1.imp fun h e => by rw [e, sLt_irrefl] at h; cases h
    · have : ∀ l : Mine, (l.map (·.1)).Nodup → ((entL sp l).map (·.key)).Nodup := fun l hl => by
        have hsub : ((entL sp l).map (·.key)).Sublist (l.map (·.1)) := by
          unfold entL
          clear hl
          induction l with
          | nil => exact List.Sublist.refl _
          | cons p l ih =>
            rw [List.filterMap_cons]
            split
            · exact List.Sublist.cons _ ih
            · rename_i b h
              split at h
              · cases h; exact ih.cons_cons _
              · cases h
        exact hl.sublist hsub
      exact this _ hm
    · intro a ha b hb e
      obtain ⟨r, hr, rfl⟩ := List.mem_map.1 ha
      obtain ⟨q, hq, rfl⟩ := List.mem_map.1 hb
      unfold baseL at hr
      rw [List.mem_filter, Bool.and_eq_true] at hr
      obtain ⟨c, h1, _⟩ := entL_mem.1 hq
      have h2 := aget_mem hm h1
      simp only at h2
      rw [← e] at h2
      rw [h2] at hr; simp at hr
  rw [List.nodup_iff_pairwise_ne, List.pairwise_map] at hnd
  refine (hs.and hnd).imp fun ⟨h1, h2⟩ => ?_
  rcases sLt_tri _ _ with h | h | h
  · exact h
  · exact absurd h h2
  · rw [h] at h1; cases h1
/-! the comparisons -/
def cfRow (x y : RowM) : Int := if sLt x.key y.key then -1 else 1
theorem lt_cfRow (x y : RowM) : ltOf cfRow x y = sLt x.key y.key := by
  unfold ltOf cfRow
  cases sLt x.key y.key <;> simp
theorem swoRow : SWO (ltOf cfRow) where
  irrefl x := by rw [lt_cfRow, sLt_irrefl]
  trans x y z h1 h2 := by rw [lt_cfRow] at *; exact sLt_trans h1 h2
  ntrans x y z h1 h2 := by rw [lt_cfRow] at *; exact sLe_trans h2 h1
instance : Inhabited RowM := ⟨⟨.empty, 0⟩⟩
/-- Those of a list, as such. -/
abbrev Of {α : Type} (ts : List α) := { t : α // t ∈ ts }
def cfTx {ts : List TxT} (x y : Of ts) : Int := (x.1.x.at_.toNat : Int) - y.1.x.at_.toNat
theorem lt_cfTx {ts : List TxT} (x y : Of ts) : ltOf cfTx x y = decide (x.1.x.at_ < y.1.x.at_) := by
  unfold ltOf cfTx
  rw [Bool.eq_iff_iff]
  simp only [decide_eq_true_eq, UInt32.lt_iff_toNat_lt]
  omega
theorem swoTx {ts : List TxT} : SWO (ltOf (cfTx (ts := ts))) where
  irrefl x := by rw [lt_cfTx]; simp [UInt32.lt_iff_toNat_lt]
  trans x y z h1 h2 := by rw [lt_cfTx] at *; simp only [decide_eq_true_eq, UInt32.lt_iff_toNat_lt] at *; omega
  ntrans x y z h1 h2 := by rw [lt_cfTx] at *; simp only [decide_eq_false_iff_not, UInt32.lt_iff_toNat_lt] at *; omega
/-- The first of those that are sorted has the least. -/
theorem least_first {ts : List TxT} {now : UInt32} {ys : List TxT} (hp : ys.Perm ts) (hs : ys.Pairwise fun a b => decide (b.x.at_ < a.x.at_) = false) (hle : ∀ t ∈ ts, t.x.at_ ≤ now) : leastB ts now = match ys.head? with
    | some t => t.x.at_
    | none => now := by
  cases ys with
  | nil => rw [List.nil_perm.1 hp]; rfl
  | cons y ys =>
    have hy : y ∈ ts := hp.mem_iff.1 (by simp)
    refine leastB_eq (hle y hy) (fun t ht => ?_) (.inr ⟨y, hy, rfl⟩)
    rcases List.mem_cons.1 (hp.mem_iff.2 ht) with rfl | h
    · exact UInt32.le_refl _
    · have := (List.pairwise_cons.1 hs).1 t h
      exact UInt32.not_lt.1 (by simpa using this)
section
variable {P : Program} {g : World} {Γ : Env} {L M : List HP} {dst : Option Tmp} {t : TypeId} {pos : String} {aft : Array Edge} {gd : Option (Nat × Bool)}
theorem e_minN {x y : Operand} {T U : TypeId} {k j : IntKind} {a b : Nat} (hx : ev Γ x = some (.int k a) := by rfl) (hy : ev Γ y = some (.int j b) := by rfl) : EO P g ⟨dst, .call ⟨.builtin .min, #[x, y], #[T, U]⟩, t, pos, aft, gd⟩ Γ L (.int k (min a b : Nat)) := by
  have h := e_minI (P := P) (g := g) (L := L) (dst := dst) (t := t) (pos := pos) (aft := aft) (gd := gd) (T := T) (U := U) hx hy
  rw [show (if (b : Int) < a then (b : Int) else a) = ((min a b : Nat) : Int) by split <;> omega] at h
  exact h
theorem e_lookC {m : Value} {d : TypeDesc} {kt : TypeId} {l : Mine} {x i : Operand} {T e : TypeId} {k : ByteArray} (ht : P.underlying T = some (.map kt e)) (hk : KeyOk P kt d eStr) (hz : (P.info? e).bind (·.zero) = some (.agg #[.string .empty, .int .u32 0, .bool false])) (hx : ev Γ x = some m := by rfl) (hi : ev Γ i = some (.string k) := by rfl) (hp : Pick L (Mp eStr m (l.map kvC)) M := by repeat first | exact .z | apply Pick.s) :
    EO P g ⟨dst, .lookup T x i true, t, pos, aft, gd⟩ Γ L (.tuple #[((aget l k).getD ⟨.empty, 0, false⟩).v, .bool (aget l k).isSome]) := by
  have h := e_lookup2 (g := g) (L := L) (dst := dst) (t := t) (pos := pos) (aft := aft) (gd := gd) (x := x) (i := i) (k := k) ht hk hz hx hi hp
  rw [mget_C] at h
  cases hf : aget l k with
  | none => rw [hf] at h; exact h
  | some c => rw [hf] at h; exact h
end
end Go.SL
/- A map of pointers read, all keys scanned. -/
set_option linter.unusedSimpArgs false
set_option linter.unusedVariables false
set_option linter.unusedSectionVars false
namespace Go.SL
open Go Go.Proofs
theorem stars_sublist {L M : List HP} (h : M.Sublist L) : ∀ {S : Piece}, stars L S → stars M S := by
  induction h with
  | slnil => exact fun h => h
  | cons _ _ ih => exact fun h => ih (stars_tail h)
  | cons_cons _ _ ih => exact fun h => stars_cons (fun _ h => ih h) h
section
variable {κ σ : Type} [DecidableEq κ] {TP : TxU κ σ → List HP}
theorem stars_h1U {ts : List (TxU κ σ)} {S : Piece} (h : stars [TxsU TP ts] S) : TxsU TP ts S := by
  have := stars_bun (L := ts.map fun t => bun (TP t)) (M := []) h
  rw [List.append_nil] at this; exact this
theorem TxsU_sub {ts us : List (TxU κ σ)} (h : us.Sublist ts) {S : Piece} (hS : TxsU TP ts S) : TxsU TP us S := stars_sublist (h.map _) hS
theorem TxsU_del {ts : List (TxU κ σ)} {n : κ} {S : Piece} (hS : TxsU TP ts S) : TxsU TP (delU ts n) S := TxsU_sub delU_sub hS
end
section
variable {P : Program} {g : World} {Γ : Env} {L M : List HP} {dst : Option Tmp} {t : TypeId} {pos : String} {aft : Array Edge} {gd : Option (Nat × Bool)}
theorem e_lookU {σ : Type} {x i : Operand} {T e kt : TypeId} {d : TypeDesc} {n : UInt32} {ts : List (TxU UInt32 σ)} {m : Value} (ht : P.underlying T = some (.map kt e)) (hk : KeyOk P kt d eU32) (hz : (P.info? e).bind (·.zero) = some (.pointer none)) (hx : ev Γ x = some m := by rfl) (hi : ev Γ i = some (.int .u32 n.toNat) := by rfl) (hp : Pick L (Mp eU32 m (List.map kvU ts)) M := by repeat first | exact .z | apply Pick.s) :
    EO P g ⟨dst, .lookup T x i false, t, pos, aft, gd⟩ Γ L (.pointer ((findU ts n).map fun t => ⟨t.q, 0, none⟩)) := by
  have h := e_lookup (g := g) (L := L) (dst := dst) (t := t) (pos := pos) (aft := aft) (gd := gd) (x := x) (i := i) (k := n) ht hk hz hx hi hp
  rw [mget_kvU] at h
  cases hf : findU ts n with
  | none => rw [hf] at h; exact h
  | some t => rw [hf] at h; exact h
end
def allSpan : SpanM := ⟨⟨#[48]⟩, ⟨#[122, 122, 122, 122, 122, 122, 122, 122, 122, 122, 122, 122, 122, 122, 122, 122]⟩⟩
theorem runes_in (s : ByteArray) : ∀ (k i : Nat), s.size ≤ i + k → allFrom keyRune s k i = true → ∀ j, i ≤ j → (hj : j < s.size) → 48 ≤ (s[j]).toNat ∧ (s[j]).toNat ≤ 122
  | 0, i, hk, _, j, h1, h2 => absurd h2 (by omega)
  | k + 1, i, hk, h, j, h1, h2 => by
    have hi : i < s.size := by omega
    rw [allFrom, if_pos hi, Bool.and_eq_true] at h
    by_cases ha : (s[i]'hi).toNat < 128
    · rw [decode_ascii s i hi ha] at h
      rcases Nat.eq_or_lt_of_le h1 with e | e
      · subst e
        have := h.1
        simp only [keyRune, Bool.or_eq_true, Bool.and_eq_true, decide_eq_true_eq, beq_iff_eq] at this
        omega
      · exact runes_in s k (i + 1) (by omega) h.2 j e h2
    · have h3 := (decode_high s i hi (by omega)).1
      have := h.1
      simp only [keyRune, Bool.or_eq_true, Bool.and_eq_true, decide_eq_true_eq, beq_iff_eq] at this
      omega
theorem bl_z : ∀ (n : Nat) (l : List UInt8), l.length ≤ n → (∀ b ∈ l, b.toNat ≤ 122) → Op.bytesLess (List.replicate n 122) l = false
  | 0, [], _, _ => rfl
  | 0, _ :: _, h, _ => by simp at h
  | n + 1, [], _, _ => by simp [List.replicate_succ, Op.bytesLess]
  | n + 1, b :: l, h, hb => by
    have h1 := hb b (by simp)
    have ih := bl_z n l (by simp at h; omega) (fun c hc => hb c (by simp [hc]))
    simp only [List.replicate_succ, Op.bytesLess, ih, Bool.and_false, Bool.or_false, decide_eq_false_iff_not, UInt8.lt_iff_toNat_lt]
    show ¬ 122 < b.toNat
    omega
theorem all_in {k : ByteArray} (h : keyOk k = true) : inSpan allSpan k = true := by
  simp only [keyOk, Bool.and_eq_true, Bool.not_eq_true', decide_eq_true_eq] at h
  obtain ⟨⟨h1, h2⟩, h3⟩ := h
  have hl : ∀ b ∈ k.toList, 48 ≤ b.toNat ∧ b.toNat ≤ 122 := fun b hb => by
    rw [ByteArray.toList_eq] at hb
    obtain ⟨j, hj, e⟩ := Array.getElem_of_mem (Array.mem_toList_iff.1 hb)
    have := runes_in k k.size 0 (by omega) h3 j (Nat.zero_le _) hj
    have e2 : k[j]'hj = b := e
    rw [e2] at this; exact this
  have hlen : k.toList.length = k.size := by rw [ByteArray.toList_eq]; exact Array.length_toList
  rw [inSpan, sIn_iff]
  constructor
  · unfold sLt
    cases hk : k.toList with
    | nil =>
      exfalso
      have : sEq k ⟨#[]⟩ = true := by rw [sEq, hk, ByteArray.toList_eq]; rfl
      rw [h1] at this; cases this
    | cons b l =>
      have := (hl b (by rw [hk]; simp)).1
      have e : (allSpan.a).toList = [48] := by rw [ByteArray.toList_eq]; rfl
      rw [e]
      have e2 : Op.bytesLess l [] = false := by cases l <;> rfl
      simp only [Op.bytesLess, e2, Bool.and_false, Bool.or_false, decide_eq_false_iff_not, UInt8.lt_iff_toNat_lt]
      show ¬ b.toNat < 48
      omega
  · unfold sLt
    have e : (allSpan.b).toList = List.replicate 16 122 := by rw [ByteArray.toList_eq]; rfl
    rw [e]
    exact bl_z 16 _ (by omega) fun b hb => (hl b hb).2
theorem scan_all {V : List RowM} (hr : Rising V) (hk : KeysOk V) (hl : V.length ≤ 2147483647) : scanR V allSpan 2147483647 = V := by
  unfold scanR
  rw [List.filter_eq_self.2 (fun r hr => all_in (hk r hr))]
  exact List.take_of_length_le hl
end Go.SL
set_option linter.unusedSimpArgs false
set_option linter.unusedVariables false
namespace Go.SL.VO
open Go Go.Proofs Go.SL
theorem a22 : aggOf Tryz.prog 22 = some none := by kernel_rfl
theorem mixedOk : Tryz.prog.follows .mixedOrders = true := by kernel_rfl
theorem sl82 : slOf Tryz.prog 82 = some (22, 1, 4) := by kernel_rfl
end Go.SL.VO
namespace Go.SL
open Go Go.Proofs VO
theorem SameIds_spec {g : World} {A B : HP} {u v : Value} {xs ys : List UInt32} (hA : RL A 1 u32C u xs) (hB : RL B 1 u32C v ys) (hn : xs.length ≤ 68719476736) : Spec Tryz.prog g 43 [u, v] [A, B] fun K R => K (.bool (decide (xs = ys))) (A :: B :: R) := by
  refine Spec.intro Tryz.func43 rfl Tryz.ntmps43 rfl fun R K hK => ?_
  refine WP.seq ?_
  refine WP.reg ?_
  refine WL.e e_assign ?_
  refine WL.next ?_
  refine WP.seq ?_
  refine WP.seq ?_
  refine WP.reg ?_
  refine WL.e e_move ?_
  refine WL.e (el_len sl82 hA) <| WL.e e_move ?_
  refine WL.e (el_len sl82 hB) <| WL.e e_neq ?_
  refine WL.next ?_
  refine WP.cond rfl (fun h1 => ?_) (fun h1 => ?_)
  · replace h1 : xs ≠ ys := fun e => by subst e; simp at h1
    refine WP.seq ?_
    refine WP.reg ?_
    refine WL.e e_assign ?_
    refine WL.next ?_
    refine WP.ret ?_
    refine PO.past nofun ?_
    exact PO.finE Tryz.results43 (rv_tmp rv_nil) (by rw [decide_eq_false h1]; rfl) hK
  · replace h1 : xs.length = ys.length := by simp at h1; omega
    refine WP.skip ?_
    refine PO.next ?_
    refine WP.seq ?_
    refine WP.seq ?_
    refine WP.reg ?_
    refine WL.e e_assign ?_
    refine WL.next ?_
    refine WP.block ?_
    refine WP.loopK (fun (i : Nat) => [(5, .int .i64 i)]) (fun (i : Nat) => A :: B :: R) [(0, _), (1, _)] (fun (i : Nat) => i ≤ xs.length ∧ xs.take i = ys.take i) (fun (i : Nat) => xs.length - i) 0 (⟨Nat.zero_le _, rfl⟩) ?_
    rintro i ⟨hi, he⟩
    refine WP.seq ?_
    refine WP.seq ?_
    refine WP.reg ?_
    refine WL.e e_move <| WL.e e_move ?_
    refine WL.e (el_len sl82 hA) <| WL.e e_lss ?_
    refine WL.next ?_
    refine WP.cond rfl (fun h2 => ?_) (fun h2 => ?_)
    · have hlt : i < xs.length := by rw [decide_eq_true_eq] at h2; omega
      obtain ⟨x, hx⟩ : ∃ x, xs[i]? = some x := ⟨_, List.getElem?_eq_getElem hlt⟩
      obtain ⟨y, hy⟩ : ∃ y, ys[i]? = some y := ⟨_, List.getElem?_eq_getElem (by omega)⟩
      refine WP.skip ?_
      refine PO.next ?_
      refine WP.seq ?_
      refine WP.block ?_
      refine WP.seq ?_
      refine WP.draws mixedOk 9 ?_
      refine RW.e 0 rfl e_move <| RW.e 1 rfl e_move ?_
      refine RW.e 2 rfl (el_ia (j := i) sl82 hA hlt) ?_
      refine RW.e 3 rfl (el_load0 (j := i) (a := x) a22 u32E hA hx) <| RW.e 4 rfl e_move <| RW.e 5 rfl e_move ?_
      refine RW.e 6 rfl (el_ia (j := i) sl82 hB (by omega)) ?_
      refine RW.e 7 rfl (el_load0 (j := i) (a := y) a22 u32E hB hy) <| RW.e 8 rfl (e_neq32) ?_
      refine RW.done ?_
      refine PO.next ?_
      refine WP.cond rfl (fun h3 => ?_) (fun h3 => ?_)
      · replace h3 : xs ≠ ys := fun e => by subst e; rw [hx] at hy; cases hy; simp at h3
        refine WP.seq ?_
        refine WP.reg ?_
        refine WL.e e_assign ?_
        refine WL.next ?_
        refine WP.ret ?_
        refine PO.blockR ?_
        refine PO.past nofun ?_
        refine PO.round nofun ?_
        refine PO.blockR ?_
        refine PO.past nofun ?_
        exact PO.finE Tryz.results43 (rv_tmp rv_nil) (by rw [decide_eq_false h3]; rfl) hK
      · replace h3 : x = y := by simpa using h3
        refine WP.skip ?_
        refine PO.blockN ?_
        refine PO.next ?_
        refine WP.reg ?_
        refine WL.e e_move <| WL.e (e_add (c := ((i + 1 : Nat) : Int)) rfl rfl (by rw [w_i64 (by omega) (by omega)]; omega)) <| WL.e e_assign ?_
        refine WL.nil ?_
        exact PO.againK (i + 1) ⟨by omega, by rw [take_snoc hx, take_snoc hy, he, h3]⟩ (by omega)
    · have hge : xs.length ≤ i := by rw [decide_eq_false_iff_not] at h2; omega
      replace h2 : xs = ys := by rwa [List.take_of_length_le hge, List.take_of_length_le (by omega)] at he
      refine WP.exit ?_
      refine PO.past nofun ?_
      refine PO.round nofun ?_
      refine PO.blockX ?_
      refine PO.next ?_
      refine WP.seq ?_
      refine WP.reg ?_
      refine WL.e e_assign ?_
      refine WL.next ?_
      refine WP.ret ?_
      exact PO.finE Tryz.results43 (rv_tmp rv_nil) (by rw [decide_eq_true h2]; rfl) hK
theorem ClipU_spec {g : World} {u : Value} {xs : List UInt32} : Spec Tryz.prog g 75 [u] [Sl 22 1 u32C u xs] fun K R => ∀ a m c, K (.slice a m c) (Sl 22 1 u32C (.slice a m c) xs :: R) := by
  refine Spec.intro Tryz.func75 rfl Tryz.ntmps75 rfl fun R K hK => ?_
  refine WP.seq ?_
  refine WP.reg ?_
  refine WL.e e_assign ?_
  refine WL.next ?_
  refine WP.seq ?_
  refine WP.reg ?_
  refine WL.e e_move <| WL.e e_move ?_
  refine WL.e (el_len (xs := xs) sl82 sl_rl) <| WL.e e_move ?_
  refine WL.e (el_len (xs := xs) sl82 sl_rl) ?_
  refine WL.e (el_to3 (hi := xs.length) (xs := xs) sl82 sl_rl (Nat.le_refl _)) <| WL.e e_assign ?_
  refine WL.next ?_
  refine WP.ret ?_
  refine PO.conv (conv1 (A := Sl 22 1 u32C u xs) (B := Sl 22 1 u32C (subV u 0 xs.length (some xs.length) 1) xs) (fun S h => by have h2 := sl_to3 (i := xs.length) u32E h (Nat.le_refl _); rwa [List.take_length] at h2) (by repeat first | exact .z | apply Put.s)) ?_
  refine PO.sh (u := subV u 0 xs.length (some xs.length) 1) fun a9 m9 c9 e9 => ?_
  rw [e9]
  exact PO.fin Tryz.results75 (rv_tmp rv_nil) (hK a9 m9 c9)
def idC (t : TxT) : List Value := u32C t.id
theorem idE : EncOk 1 idC := ⟨fun _ => rfl, fun _ => rfl⟩
end Go.SL

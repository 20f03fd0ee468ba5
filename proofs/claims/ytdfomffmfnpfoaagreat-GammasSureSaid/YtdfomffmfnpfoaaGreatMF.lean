/- GammasSerial in plain Lean: what was committed is as if it had been done one behind the other, by the numbers. -/
import Derived.Test.YtdfomffmfnpfoaaGreatMD
set_option linter.unusedSimpArgs false
set_option linter.unusedVariables false
namespace Go.SL
open Go
/-! rows, key by key -/
theorem mem_change {r : RowM} : ∀ (cs : List ChgM) {V V' : List RowM}, Rising V → Rising V' → (r ∈ V ↔ r ∈ V') → (r ∈ changeR V cs ↔ r ∈ changeR V' cs)
  | [], _, _, _, _, h => h
  | c :: cs, V, V', h1, h2, h => by
    refine mem_change cs (applyC_rising h1 c).1 (applyC_rising h2 c).1 ?_
    rw [mem_applyC h1, mem_applyC h2, h]
theorem mem_change_skip {r : RowM} (cs : List ChgM) {V : List RowM} (h : Rising V) (hk : ∀ c ∈ cs, c.key ≠ r.key) : r ∈ changeR V cs ↔ r ∈ V := by
  induction cs generalizing V with
  | nil => exact Iff.rfl
  | cons c cs ih =>
    show r ∈ changeR (applyC V c) cs ↔ _
    rw [ih (applyC_rising h c).1 (fun c' hc' => hk c' (by simp [hc'])), mem_applyC h]
    have := hk c (by simp)
    constructor
    · rintro (⟨_, e⟩ | ⟨h, _⟩)
      · subst e; exact absurd rfl this
      · exact h
    · intro h; exact .inr ⟨h, fun e => this e.symm⟩
theorem change_app (V : List RowM) (a b : List ChgM) : changeR V (a ++ b) = changeR (changeR V a) b := by simp [changeR]
/-- Changes of other keys may stand ahead or behind. -/
theorem change_swap {V : List RowM} (h : Rising V) (a b : List ChgM) (hk : ∀ c ∈ a, ∀ c' ∈ b, c.key ≠ c'.key) : changeR V (a ++ b) = changeR V (b ++ a) := by
  have ha := (changeR_rising a h).1
  have hb := (changeR_rising b h).1
  rw [change_app, change_app]
  refine rising_ext (changeR_rising b ha).1 (changeR_rising a hb).1 fun r => ?_
  by_cases hr : ∃ c ∈ a, c.key = r.key
  · obtain ⟨c, hc, e⟩ := hr
    rw [mem_change_skip b ha (fun c' hc' e' => hk c hc c' hc' (e.trans e'.symm))]
    refine mem_change a h hb ?_
    exact (mem_change_skip b h (fun c' hc' e' => hk c hc c' hc' (e.trans e'.symm))).symm
  · have hn : ∀ c ∈ a, c.key ≠ r.key := fun c hc e => hr ⟨c, hc, e⟩
    rw [mem_change_skip a hb hn]
    exact mem_change b ha h (mem_change_skip a h hn)
theorem scan_agree {V V' : List RowM} (h : Rising V) (h' : Rising V') (p : SpanM) (n : Nat) (hm : ∀ r : RowM, inSpan p r.key = true → (r ∈ V ↔ r ∈ V')) : scanR V p n = scanR V' p n := by
  unfold scanR
  congr 1
  refine rising_ext (h.sublist List.filter_sublist) (h'.sublist List.filter_sublist) fun r => ?_
  rw [List.mem_filter, List.mem_filter]
  constructor
  · rintro ⟨h1, h2⟩; exact ⟨(hm r h2).1 h1, h2⟩
  · rintro ⟨h1, h2⟩; exact ⟨(hm r h2).2 h1, h2⟩
def chs (ops : List OpM) : List ChgM := (ops.filter writes).map chgOf
theorem chs_snoc_w (ops : List OpM) {x : OpM} (h : writes x = true) : chs (ops ++ [x]) = chs ops ++ [chgOf x] := by simp [chs, h]
theorem chs_snoc_r (ops : List OpM) {x : OpM} (h : writes x = false) : chs (ops ++ [x]) = chs ops := by simp [chs, h]
theorem run_left {V : List RowM} (hV : Rising V) : ∀ ops : List OpM, (∀ x ∈ ops, opOk x = true) → (runM V ops).2 = changeR V (chs ops) := by
  refine snoc_ind (fun _ => rfl) fun l x ih h => ?_
  have hx := h x (by simp)
  rw [runM_snoc, ih fun y hy => h y (by simp [hy])]
  cases hw : writes x with
  | true => rw [done_write hx hw, chs_snoc_w l hw, changeR_snoc]
  | false => rw [done_read (changeR_rising _ hV).1 hx hw, chs_snoc_r l hw]
theorem run_agree {V V' : List RowM} (h : Rising V) (h' : Rising V') : ∀ ops : List OpM, (∀ x ∈ ops, opOk x = true) → (∀ x ∈ ops, writes x = false → ∀ r : RowM, inSpan (spanOf x) r.key = true → (r ∈ V ↔ r ∈ V')) → (runM V ops).1 = (runM V' ops).1 := by
  refine snoc_ind (fun _ _ => rfl) fun l x ih hok hm => ?_
  have hx := hok x (by simp)
  have hl : ∀ y ∈ l, opOk y = true := fun y hy => hok y (by simp [hy])
  rw [runM_snoc, runM_snoc]
  show (runM V l).1 ++ [(doneO (runM V l).2 x).1] = (runM V' l).1 ++ [(doneO (runM V' l).2 x).1]
  rw [ih hl fun y hy => hm y (by simp [hy])]
  suffices e : (doneO (runM V l).2 x).1 = (doneO (runM V' l).2 x).1 by rw [e]
  rw [run_left h l hl, run_left h' l hl]
  cases hw : writes x with
  | true => rw [done_write hx hw, done_write hx hw]
  | false =>
    rw [done_read (changeR_rising _ h).1 hx hw, done_read (changeR_rising _ h').1 hx hw]
    exact scan_agree (changeR_rising _ h).1 (changeR_rising _ h').1 _ _ fun r hr => mem_change _ h h' (hm x (by simp) hw r hr)
/-! what was committed -/
structure Pty where
  num : UInt32
  ops : List OpM
  res : List (List RowM)
def chsL (l : List Pty) : List ChgM := l.flatMap fun a => chs a.ops
def rowsOf (l : List Pty) : List RowM := changeR [] (chsL l)
theorem rowsOf_rising (l : List Pty) : Rising (rowsOf l) := (changeR_rising _ List.Pairwise.nil).1
def below (l : List Pty) (n : UInt32) : List Pty := l.filter fun a => decide (a.num < n)
theorem chsL_app (a b : List Pty) : chsL (a ++ b) = chsL a ++ chsL b := by simp [chsL]
theorem mem_chsL {l : List Pty} {c : ChgM} : c ∈ chsL l ↔ ∃ a ∈ l, c ∈ chs a.ops := by simp [chsL]
abbrev Og := UInt32 → List OpM × List (List RowM)
def Is (com : List Pty) (txs : List TxV) (o : Og) (a : Pty) : Prop := a ∈ com ∨ ∃ t ∈ txs, a = ⟨t.num, (o t.id).1, (o t.id).2⟩
structure Ser (s : GamV) (com : List Pty) (o : Og) : Prop where
  sorted : com.Pairwise fun a b => a.num < b.num
  hrows : s.rows = rowsOf com
  own : ∀ t ∈ s.txs, t.own = chs (o t.id).1
  ok : ∀ a, Is com s.txs o a → ∀ x ∈ a.ops, opOk x = true
  expl : ∀ a, Is com s.txs o a → (runM (rowsOf (below com a.num)) a.ops).1 = a.res
  reads : ∀ a, Is com s.txs o a → ∀ x ∈ a.ops, writes x = false → ∀ u ∈ s.txs, u.num < a.num → ∀ c ∈ u.own, inSpan (spanOf x) c.key = false
  looks : ∀ a, Is com s.txs o a → ∀ x ∈ a.ops, writes x = false → ∀ u ∈ s.txs, u.num < a.num → (a.num, spanOf x) ∈ s.looks
  le : ∀ a, Is com s.txs o a → a.num ≤ s.last
  apart : ∀ t ∈ s.txs, ∀ a ∈ com, t.num ≠ a.num
  uniq : ∀ t ∈ s.txs, ∀ u ∈ s.txs, t.num = u.num → t.id = u.id
  known : ∀ a ∈ com, ∀ c ∈ chs a.ops, ∃ m, (c.key, m) ∈ s.nums ∧ a.num ≤ m
  fresh : ∀ u ∈ s.txs, ∀ c ∈ u.own, ∀ a ∈ com, u.num < a.num → ∀ c' ∈ chs a.ops, c'.key ≠ c.key
  alone : ∀ u ∈ s.txs, ∀ v ∈ s.txs, u.id ≠ v.id → ∀ c ∈ u.own, ∀ c' ∈ v.own, c.key ≠ c'.key
theorem Is.sub {com : List Pty} {ts ts' : List TxV} {o : Og} (h : ∀ t ∈ ts', t ∈ ts) {a : Pty} (ha : Is com ts' o a) : Is com ts o a := by
  rcases ha with h1 | ⟨t, h1, h2⟩
  · exact .inl h1
  · exact .inr ⟨t, h t h1, h2⟩
theorem minL_le {ts : List TxV} {m : UInt32} : minL ts m ≤ m ∧ ∀ t ∈ ts, minL ts m ≤ t.num := by
  induction ts generalizing m with
  | nil => exact ⟨UInt32.le_refl _, by simp⟩
  | cons x ts ih =>
    have h1 := (ih (m := if x.num < m then x.num else m)).1
    have h2 := (ih (m := if x.num < m then x.num else m)).2
    show minL ts (if x.num < m then x.num else m) ≤ m ∧ ∀ t ∈ x :: ts, minL ts (if x.num < m then x.num else m) ≤ t.num
    have e1 : (if x.num < m then x.num else m) ≤ m ∧ (if x.num < m then x.num else m) ≤ x.num := by
      split
      · rename_i h; exact ⟨UInt32.le_of_lt h, UInt32.le_refl _⟩
      · rename_i h; exact ⟨UInt32.le_refl _, UInt32.not_lt.1 h⟩
    refine ⟨UInt32.le_trans h1 e1.1, fun t ht => ?_⟩
    rcases List.mem_cons.1 ht with rfl | ht
    · exact UInt32.le_trans h1 e1.2
    · exact h2 t ht
theorem Ser.init (d : DiskM) (o : Og) : Ser (gam0 d) [] o := by
  have hn : ∀ a, ¬ Is [] (gam0 d).txs o a := fun a h => by rcases h with h | ⟨t, h, _⟩ <;> cases h
  exact ⟨List.Pairwise.nil, rfl, (by intro t h; cases h), fun a h => absurd h (hn a), fun a h => absurd h (hn a), fun a h => absurd h (hn a), fun a h => absurd h (hn a), fun a h => absurd h (hn a), (by intro t h; cases h), (by intro t h; cases h), (by intro t h; cases h), (by intro t h; cases h), (by intro t h; cases h)⟩
theorem Ser.ends {s : GamV} {com : List Pty} {o : Og} (h : Ser s com o) (n : UInt32) : Ser (endsG s n) com o := by
  have hs : ∀ t ∈ (endsG s n).txs, t ∈ s.txs := fun t ht => delT_sub.mem ht
  refine ⟨h.sorted, h.hrows, fun t ht => h.own t (hs t ht), fun a ha => h.ok a (ha.sub hs), fun a ha => h.expl a (ha.sub hs), fun a ha x hx hw u hu => h.reads a (ha.sub hs) x hx hw u (hs u hu), fun a ha x hx hw u hu hlt => ?_, fun a ha => h.le a (ha.sub hs), fun t ht => h.apart t (hs t ht), fun t ht u hu => h.uniq t (hs t ht) u (hs u hu), h.known, fun u hu => h.fresh u (hs u hu), fun u hu v hv => h.alone u (hs u hu) v (hs v hv)⟩
  refine List.mem_filter.2 ⟨h.looks a (ha.sub hs) x hx hw u (hs u hu) hlt, ?_⟩
  have h1 := (minL_le (ts := delT s.txs n) (m := s.last)).2 u hu
  simp only [Bool.not_eq_true', decide_eq_false_iff_not]
  intro h2
  exact UInt32.lt_irrefl _ (UInt32.lt_trans (UInt32.lt_of_lt_of_le h2 h1) hlt)
theorem Is.congr {com : List Pty} {ts : List TxV} {o o' : Og} (h : ∀ t ∈ ts, o t.id = o' t.id) {a : Pty} (ha : Is com ts o a) : Is com ts o' a := by
  rcases ha with h1 | ⟨t, h1, h2⟩
  · exact .inl h1
  · exact .inr ⟨t, h1, by rw [h2, h t h1]⟩
theorem Ser.congr {s : GamV} {com : List Pty} {o o' : Og} (h : Ser s com o) (ho : ∀ t ∈ s.txs, o t.id = o' t.id) : Ser s com o' := by
  have hi : ∀ a, Is com s.txs o' a → Is com s.txs o a := fun a ha => ha.congr fun t ht => (ho t ht).symm
  exact ⟨h.sorted, h.hrows, fun t ht => by rw [← ho t ht]; exact h.own t ht, fun a ha => h.ok a (hi a ha), fun a ha => h.expl a (hi a ha), fun a ha => h.reads a (hi a ha), fun a ha => h.looks a (hi a ha), fun a ha => h.le a (hi a ha), h.apart, h.uniq, h.known, h.fresh, h.alone⟩
def setO (o : Og) (n : UInt32) (v : List OpM × List (List RowM)) : Og := fun m => if m = n then v else o m
theorem setO_same (o : Og) (n : UInt32) (v : List OpM × List (List RowM)) : setO o n v n = v := by simp [setO]
theorem setO_other (o : Og) {n m : UInt32} (v : List OpM × List (List RowM)) (h : m ≠ n) : setO o n v m = o m := by simp [setO, h]
theorem Ser.beg {s : GamV} {com : List Pty} {o : Og} (h : Ser s com o) {n : UInt32} (hE : begE s n = 0) (hl : s.last.toNat < 4000000000) (q : Nat) : Ser (begG s n q) com (setO o n ([], [])) := by
  have hf : findT s.txs n = none := by
    unfold begE at hE
    cases e : findT s.txs n with
    | none => rfl
    | some t => rw [e] at hE; split at hE <;> simp at hE
  have hid : ∀ t ∈ s.txs, t.id ≠ n := fun t ht e => find_none hf (List.mem_map.2 ⟨t, ht, e⟩)
  have hB : begG s n q = { s with last := s.last + 1, txs := s.txs ++ [⟨n, s.last + 1, [], q, ⟨none, 0, 0⟩⟩] } := by rw [begG, if_pos hE]
  have hlt : s.last < s.last + 1 := by rw [UInt32.lt_iff_toNat_lt, UInt32.toNat_add]; simp; omega
  have hI : ∀ a, Is com (s.txs ++ [⟨n, s.last + 1, [], q, ⟨none, 0, 0⟩⟩]) (setO o n ([], [])) a → Is com s.txs o a ∨ a = ⟨s.last + 1, [], []⟩ := by
    rintro a (h1 | ⟨t, h1, h2⟩)
    · exact .inl (.inl h1)
    · rcases List.mem_append.1 h1 with h1 | h1
      · rw [setO_other _ _ (hid t h1)] at h2; exact .inl (.inr ⟨t, h1, h2⟩)
      · simp at h1; subst h1; rw [setO_same] at h2; exact .inr h2
  have hT : ∀ t ∈ s.txs ++ [(⟨n, s.last + 1, [], q, ⟨none, 0, 0⟩⟩ : TxV)], t ∈ s.txs ∨ t = ⟨n, s.last + 1, [], q, ⟨none, 0, 0⟩⟩ := fun t ht => by simpa using ht
  have hle : ∀ t ∈ s.txs, t.num ≤ s.last := fun t ht => h.le _ (.inr ⟨t, ht, rfl⟩)
  have hne : ∀ m, m ≤ s.last → s.last + 1 ≠ m := fun m hm e => by subst e; exact UInt32.lt_irrefl _ (UInt32.lt_of_lt_of_le hlt hm)
  rw [hB]
  refine ⟨h.sorted, h.hrows, fun t ht => ?_, fun a ha => ?_, fun a ha => ?_, fun a ha x hx hw u hu hlt2 => ?_, fun a ha x hx hw u hu hlt2 => ?_, fun a ha => ?_, fun t ht a ha => ?_, fun t ht u hu e => ?_, h.known, fun u hu c hc => ?_, fun u hu v hv hne c hc c' hc' => ?_⟩
  · rcases hT t ht with ht | rfl
    · show t.own = _; rw [setO_other _ _ (hid t ht)]; exact h.own t ht
    · show ([] : List ChgM) = chs (setO o n ([], []) n).1; rw [setO_same]; rfl
  · rcases hI a ha with ha | rfl
    · exact h.ok a ha
    · simp
  · rcases hI a ha with ha | rfl
    · exact h.expl a ha
    · rfl
  · rcases hI a ha with ha | rfl
    · rcases hT u hu with hu | rfl
      · exact h.reads a ha x hx hw u hu hlt2
      · simp
    · cases hx
  · rcases hI a ha with ha | rfl
    · rcases hT u hu with hu | rfl
      · exact h.looks a ha x hx hw u hu hlt2
      · exact absurd (UInt32.lt_of_lt_of_le hlt2 (h.le a ha)) (fun h3 => UInt32.lt_irrefl _ (UInt32.lt_trans hlt h3))
    · cases hx
  · rcases hI a ha with ha | rfl
    · exact UInt32.le_trans (h.le a ha) (UInt32.le_of_lt hlt)
    · exact UInt32.le_refl _
  · rcases hT t ht with ht | rfl
    · exact h.apart t ht a ha
    · exact hne _ (h.le a (.inl ha))
  · rcases hT t ht with ht | rfl <;> rcases hT u hu with hu | rfl
    · exact h.uniq t ht u hu e
    · exact absurd e.symm (hne _ (hle t ht))
    · exact absurd e (hne _ (hle u hu))
    · rfl
  · rcases hT u hu with hu | rfl
    · exact h.fresh u hu c hc
    · cases hc
  · rcases hT u hu with hu | rfl
    · rcases hT v hv with hv | rfl
      · exact h.alone u hu v hv hne c hc c' hc'
      · cases hc'
    · cases hc
theorem late_nums {s : GamV} {t : TxV} {p : SpanM} {w : Bool} (h : lateG s t p w = false) : ∀ y ∈ s.nums, t.num < y.2 → inSpan p y.1 = false := fun y hy hlt => by
  unfold lateG at h
  simp only [Bool.or_eq_false_iff] at h
  have := List.any_eq_false.1 h.1 y hy
  rw [meet_one] at this
  simpa [hlt] using this
theorem late_looks {s : GamV} {t : TxV} {p : SpanM} (h : lateG s t p true = false) : ∀ y ∈ s.looks, t.num < y.1 → meet y.2 p = false := fun y hy hlt => by
  unfold lateG at h
  simp only [Bool.or_eq_false_iff, Bool.true_and] at h
  have := List.any_eq_false.1 h.2.2 y hy
  simpa [hlt] using this
theorem late_under {s : GamV} {t : TxV} {p : SpanM} (h : lateG s t p true = false) : ∀ n ∈ underL s.txs t.id p, ¬ t.num < n := fun n hn hlt => by
  unfold lateG at h
  simp only [Bool.or_eq_false_iff, Bool.true_and] at h
  have := List.any_eq_false.1 h.2.1 n hn
  simp [hlt] at this
theorem mem_under {ts : List TxV} {n : UInt32} {p : SpanM} {u : TxV} (hu : u ∈ ts) (hi : u.id ≠ n) {c : ChgM} (hc : c ∈ u.own) (hp : inSpan p c.key = true) : u.num ∈ underL ts n p := by
  refine List.mem_map.2 ⟨u, List.mem_filter.2 ⟨hu, ?_⟩, rfl⟩
  have : changes u p = true := List.any_eq_true.2 ⟨c, hc, by rw [meet_one]; exact hp⟩
  simp [hi, this]
/-- What an op that was done tells of the others. -/
theorem doG_inv {s : GamV} {n : UInt32} {x : OpM} {t : TxV} (h : (∃ c, doG s n x = .put t c) ∨ doG s n x = .look t) : opOk x = true ∧ findT s.txs n = some t ∧ lateG s t (spanOf x) (writes x) = false ∧ (∀ m ∈ underL s.txs t.id (spanOf x), ¬ m < t.num) ∧ (∀ c, doG s n x = .put t c → writes x = true ∧ c = chgOf x) ∧ (doG s n x = .look t → writes x = false) := by
  unfold doG at h ⊢
  cases h1 : opOk x with
  | false => rw [h1] at h; simp at h
  | true =>
    rw [h1] at h
    simp only [if_true] at h ⊢
    cases hf : findT s.txs n with
    | none => rw [hf] at h; simp at h
    | some u =>
      rw [hf] at h
      simp only at h ⊢
      cases hl : lateG s u (spanOf x) (writes x) with
      | true => rw [hl] at h; simp at h
      | false =>
        simp only [hl] at h ⊢
        cases hw : (underL s.txs u.id (spanOf x)).any (fun m => decide (m < u.num)) with
        | true => simp only [hw] at h; simp at h
        | false =>
          have hwn : ∀ m ∈ underL s.txs u.id (spanOf x), ¬ m < u.num := fun m hm hlt => by
            have := List.any_eq_false.1 hw m hm; simp [hlt] at this
          simp only [hw] at h ⊢
          cases hx : writes x with
          | true =>
            simp only [hx] at h hl ⊢
            obtain rfl : u = t := by simpa using h
            exact ⟨by simp, by simp, by simpa using hl, hwn, fun c hc => by simp at hc; exact ⟨by simp, hc.symm⟩, fun hc => by simp at hc⟩
          | false =>
            simp only [hx] at h hl ⊢
            obtain rfl : u = t := by simpa using h
            exact ⟨by simp, by simp, by simpa using hl, hwn, fun c hc => by simp at hc, fun _ => by simp⟩
theorem Is.put {com : List Pty} {ts : List TxV} {o : Og} {n : UInt32} {v : List OpM × List (List RowM)} {f : TxV → TxV} (hf : ∀ u, (f u).id = u.id ∧ (f u).num = u.num) {t : TxV} (hu : ∀ u ∈ ts, u.id = n → u.num = t.num) {a : Pty} (ha : Is com (ts.map f) (setO o n v) a) : Is com ts o a ∨ a = ⟨t.num, v.1, v.2⟩ := by
  rcases ha with h1 | ⟨u, h1, h2⟩
  · exact .inl (.inl h1)
  · obtain ⟨w, hw, rfl⟩ := List.mem_map.1 h1
    rw [(hf w).1, (hf w).2] at h2
    by_cases e : w.id = n
    · rw [e, setO_same, hu w hw e] at h2; exact .inr h2
    · rw [setO_other _ _ e] at h2; exact .inl (.inr ⟨w, hw, h2⟩)
/-- What is committed with a number below one's own, in a span that one may look at. -/
theorem below_agree {s : GamV} {com : List Pty} {o : Og} (h : Ser s com o) {t : TxV} (ht : t ∈ s.txs) {p : SpanM} (hn : ∀ y ∈ s.nums, t.num < y.2 → inSpan p y.1 = false) : ∀ r : RowM, inSpan p r.key = true → (r ∈ s.rows ↔ r ∈ rowsOf (below com t.num)) := fun r hr => by
  rw [h.hrows]
  have hsplit : com = below com t.num ++ com.filter (fun a => !decide (a.num < t.num)) := by
    have hs := h.sorted
    clear hn h
    induction com with
    | nil => rfl
    | cons a l ih =>
      have hp := List.pairwise_cons.1 hs
      by_cases ha : a.num < t.num
      · simp only [below, List.filter_cons, ha, decide_true, if_true, Bool.not_true, Bool.false_eq_true, if_false, List.cons_append]
        congr 1; exact ih hp.2
      · have hall : ∀ b ∈ l, ¬ b.num < t.num := fun b hb hlt => ha (UInt32.lt_trans (hp.1 b hb) hlt)
        have e1 : below (a :: l) t.num = [] := by
          unfold below; rw [List.filter_eq_nil_iff]
          intro b hb; rcases List.mem_cons.1 hb with rfl | hb
          · simpa using ha
          · simpa using hall b hb
        have e2 : (a :: l).filter (fun a => !decide (a.num < t.num)) = a :: l := by
          rw [List.filter_eq_self]
          intro b hb; rcases List.mem_cons.1 hb with rfl | hb
          · simpa using ha
          · simpa using hall b hb
        rw [e1, e2]; rfl
  conv => lhs; rw [hsplit]
  unfold rowsOf
  rw [chsL_app, change_app]
  refine mem_change_skip _ (rowsOf_rising _) fun c hc e => ?_
  obtain ⟨a, ha, hca⟩ := mem_chsL.1 hc
  obtain ⟨ha1, ha2⟩ := List.mem_filter.1 ha
  obtain ⟨m, hm, hle⟩ := h.known a ha1 c hca
  have hne := h.apart t ht a ha1
  have hlt : t.num < m := by
    have h3 : ¬ a.num < t.num := by simpa using ha2
    have h4 := UInt32.not_lt.1 h3
    refine UInt32.lt_of_lt_of_le (UInt32.lt_of_le_of_ne h4 hne) hle
  have := hn _ hm hlt
  rw [← e, this] at hr; cases hr
theorem Ser.put {s : GamV} {com : List Pty} {o : Og} {b : Nat} (h : Ser s com o) (hs : GamOk s b) {n : UInt32} {x : OpM} {t : TxV} {c : ChgM} (hd : doG s n x = .put t c) (sv : SV) : Ser (putG s t.id c sv) com (setO o t.id ((o t.id).1 ++ [x], (o t.id).2 ++ [[]])) := by
  obtain ⟨hx, hf, hl, hun, hp, _⟩ := doG_inv (.inl ⟨c, hd⟩)
  obtain ⟨hwx, rfl⟩ := hp c hd
  rw [hwx] at hl
  have ht := find_mem hf
  have hkey : spanOf x = one x.key := by
    rcases kinds hx with ⟨_, e | e⟩ | ⟨h2, _⟩
    · simp [spanOf, e, one]
    · simp [spanOf, e, one]
    · rw [hwx] at h2; cases h2
  have hck : (chgOf x).key = x.key := by unfold chgOf; split <;> rfl
  have hself : inSpan (spanOf x) (chgOf x).key = true := by rw [hck, hkey, inSpan, one, sIn_iff]; exact ⟨sLt_irrefl _, sLt_irrefl _⟩
  have hone : ∀ k, inSpan (spanOf x) k = true → k = x.key := fun k hk => by
    rw [hkey, inSpan, one, sIn_iff] at hk
    rcases sLt_tri k x.key with e | e | e
    · rw [hk.1] at e; cases e
    · exact e
    · rw [hk.2] at e; cases e
  have hid : ∀ u ∈ s.txs, u.id = t.id → u = t := fun u hu e => by
    obtain ⟨A, B, ets⟩ := mem_mid ht
    exact under_same ets hs.ids hu e
  let f : TxV → TxV := fun u => if u.id = t.id then { u with own := u.own ++ [chgOf x], sv := sv } else u
  have hf' : ∀ u, (f u).id = u.id ∧ (f u).num = u.num := fun u => by simp only [f]; split <;> exact ⟨rfl, rfl⟩
  have hI : ∀ a, Is com (s.txs.map f) (setO o t.id ((o t.id).1 ++ [x], (o t.id).2 ++ [[]])) a → Is com s.txs o a ∨ a = ⟨t.num, (o t.id).1 ++ [x], (o t.id).2 ++ [[]]⟩ := fun a ha => Is.put hf' (fun u hu e => by rw [hid u hu e]) ha
  have hM : ∀ u ∈ s.txs.map f, ∃ w ∈ s.txs, u.id = w.id ∧ u.num = w.num ∧ (u.own = w.own ∨ (w = t ∧ u.own = w.own ++ [chgOf x])) := fun u hu => by
    obtain ⟨w, hw, rfl⟩ := List.mem_map.1 hu
    refine ⟨w, hw, (hf' w).1, (hf' w).2, ?_⟩
    by_cases e : w.id = t.id
    · right; exact ⟨hid w hw e, by simp only [f, if_pos e]⟩
    · left; simp only [f, if_neg e]
  have hme : Is com s.txs o ⟨t.num, (o t.id).1, (o t.id).2⟩ := .inr ⟨t, ht, rfl⟩
  -- no one else has a change of that key under way
  have hno : ∀ u ∈ s.txs, u.id ≠ t.id → ∀ c ∈ u.own, c.key ≠ x.key := fun u hu hi c hc e => by
    have hm := mem_under hu hi hc (show inSpan (spanOf x) c.key = true by rw [e, ← hck]; exact hself)
    have h1 := late_under hl u.num hm
    have h2 := hun u.num hm
    have e2 : u.num = t.num := UInt32.le_antisymm (UInt32.not_lt.1 h1) (UInt32.not_lt.1 h2)
    exact hi (h.uniq u hu t ht e2)
  have hlk : ∀ y ∈ s.looks, t.num < y.1 → inSpan y.2 x.key = false := fun y hy hlt => by
    have := late_looks hl y hy hlt
    rw [hkey, meet_comm, meet_one] at this
    exact this
  show Ser { s with txs := s.txs.map f } com _
  refine ⟨h.sorted, h.hrows, fun u hu => ?_, fun a ha => ?_, fun a ha => ?_, fun a ha y hy hwy u hu hlt => ?_, fun a ha y hy hwy u hu hlt => ?_, fun a ha => ?_, fun u hu a ha => ?_, fun u hu v hv e => ?_, h.known, fun u hu c hc a ha hlt c' hc' => ?_, fun u hu v hv hne c hc c' hc' => ?_⟩
  · obtain ⟨w, hw, rfl⟩ := List.mem_map.1 hu
    by_cases e : w.id = t.id
    · obtain rfl := hid w hw e
      simp only [f, if_true, setO_same]
      rw [chs_snoc_w _ hwx, h.own w hw]
    · simp only [f, if_neg e, setO_other _ _ e]; exact h.own w hw
  · rcases hI a ha with h5 | rfl
    · exact h.ok a h5
    · intro y hy
      rcases List.mem_append.1 hy with hy | hy
      · exact h.ok _ hme y hy
      · simp at hy; subst hy; exact hx
  · rcases hI a ha with h5 | rfl
    · exact h.expl a h5
    · have h1 := h.expl _ hme
      simp only at h1 ⊢
      rw [runM_snoc, done_write hx hwx]
      simp only [h1]
  · obtain ⟨w, hw, e1, e2, e3⟩ := hM u hu
    rw [e2] at hlt
    rcases hI a ha with h5 | rfl
    · rcases e3 with e3 | ⟨rfl, e3⟩
      · rw [e3]; exact h.reads a h5 y hy hwy w hw hlt
      · rw [e3]
        intro c hc
        rcases List.mem_append.1 hc with hc | hc
        · exact h.reads a h5 y hy hwy w hw hlt c hc
        · simp at hc; subst hc
          rw [hck]; exact hlk _ (h.looks a h5 y hy hwy w hw hlt) hlt
    · rcases List.mem_append.1 hy with hy | hy
      · rcases e3 with e3 | ⟨rfl, e3⟩
        · rw [e3]; exact h.reads _ hme y hy hwy w hw hlt
        · exact absurd hlt (UInt32.lt_irrefl _)
      · simp at hy; subst hy; rw [hwx] at hwy; cases hwy
  · obtain ⟨w, hw, e1, e2, e3⟩ := hM u hu
    rw [e2] at hlt
    rcases hI a ha with h5 | rfl
    · exact h.looks a h5 y hy hwy w hw hlt
    · rcases List.mem_append.1 hy with hy | hy
      · exact h.looks _ hme y hy hwy w hw hlt
      · simp at hy; subst hy; rw [hwx] at hwy; cases hwy
  · rcases hI a ha with h5 | rfl
    · exact h.le a h5
    · show t.num ≤ s.last
      exact h.le _ hme
  · obtain ⟨w, hw, e1, e2, e3⟩ := hM u hu
    rw [e2]; exact h.apart w hw a ha
  · obtain ⟨w, hw, e1, e2, _⟩ := hM u hu
    obtain ⟨w', hw', e1', e2', _⟩ := hM v hv
    rw [e1, e1']; exact h.uniq w hw w' hw' (by rw [← e2, ← e2']; exact e)
  · obtain ⟨w, hw, e1, e2, e3⟩ := hM u hu
    rw [e2] at hlt
    rcases e3 with e3 | ⟨rfl, e3⟩
    · rw [e3] at hc; exact h.fresh w hw c hc a ha hlt c' hc'
    · rw [e3] at hc
      rcases List.mem_append.1 hc with hc | hc
      · exact h.fresh w hw c hc a ha hlt c' hc'
      · simp at hc; subst hc
        obtain ⟨m, hm, hle⟩ := h.known a ha c' hc'
        have := late_nums hl _ hm (UInt32.lt_of_lt_of_le hlt hle)
        intro e
        simp only at this
        rw [e, hself] at this; cases this
  · obtain ⟨w, hw, e1, e2, e3⟩ := hM u hu
    obtain ⟨w', hw', e1', e2', e3'⟩ := hM v hv
    rw [e1, e1'] at hne
    rcases e3 with e3 | ⟨rfl, e3⟩
    · rw [e3] at hc
      rcases e3' with e3' | ⟨rfl, e3'⟩
      · rw [e3'] at hc'; exact h.alone w hw w' hw' hne c hc c' hc'
      · rw [e3'] at hc'
        rcases List.mem_append.1 hc' with hc' | hc'
        · exact h.alone w hw w' hw' hne c hc c' hc'
        · simp at hc'; subst hc'; rw [hck]; exact hno w hw hne c hc
    · rw [e3] at hc
      rcases e3' with e3' | ⟨rfl, e3'⟩
      · rw [e3'] at hc'
        rcases List.mem_append.1 hc with hc | hc
        · exact h.alone w hw w' hw' hne c hc c' hc'
        · simp at hc; subst hc; rw [hck]; exact fun e => hno w' hw' (Ne.symm hne) c' hc' e.symm
      · exact absurd rfl hne
theorem Ser.look {s : GamV} {com : List Pty} {o : Og} {b : Nat} (h : Ser s com o) (hs : GamOk s b) {n : UInt32} {x : OpM} {t : TxV} (hd : doG s n x = .look t) : Ser (lookG s t (spanOf x)) com (setO o t.id ((o t.id).1 ++ [x], (o t.id).2 ++ [scanR (changeR s.rows t.own) (spanOf x) 256])) := by
  obtain ⟨hx, hf, hl, hun, _, hp⟩ := doG_inv (.inr hd)
  have hwx := hp hd
  have ht := find_mem hf
  have hid : ∀ u ∈ s.txs, u.id = t.id → u = t := fun u hu e => by
    obtain ⟨A, B, ets⟩ := mem_mid ht
    exact under_same ets hs.ids hu e
  have hI : ∀ a, Is com s.txs (setO o t.id ((o t.id).1 ++ [x], (o t.id).2 ++ [scanR (changeR s.rows t.own) (spanOf x) 256])) a → Is com s.txs o a ∨ a = ⟨t.num, (o t.id).1 ++ [x], (o t.id).2 ++ [scanR (changeR s.rows t.own) (spanOf x) 256]⟩ := fun a ha => by
    rcases ha with h1 | ⟨u, h1, h2⟩
    · exact .inl (.inl h1)
    · by_cases e : u.id = t.id
      · obtain rfl := hid u h1 e
        rw [setO_same] at h2; exact .inr h2
      · rw [setO_other _ _ e] at h2; exact .inl (.inr ⟨u, h1, h2⟩)
  have hme : Is com s.txs o ⟨t.num, (o t.id).1, (o t.id).2⟩ := .inr ⟨t, ht, rfl⟩
  refine ⟨h.sorted, h.hrows, fun u hu => ?_, fun a ha => ?_, fun a ha => ?_, fun a ha y hy hwy u hu hlt => ?_, fun a ha y hy hwy u hu hlt => ?_, fun a ha => ?_, h.apart, h.uniq, h.known, h.fresh, h.alone⟩
  · by_cases e : u.id = t.id
    · obtain rfl := hid u hu e
      rw [setO_same]; simp only; rw [chs_snoc_r _ hwx]; exact h.own u hu
    · rw [setO_other _ _ e]; exact h.own u hu
  · rcases hI a ha with h5 | rfl
    · exact h.ok a h5
    · intro y hy
      rcases List.mem_append.1 hy with hy | hy
      · exact h.ok _ hme y hy
      · simp at hy; subst hy; exact hx
  · rcases hI a ha with h5 | rfl
    · exact h.expl a h5
    · have h1 := h.expl _ hme
      simp only at h1 ⊢
      have hV := rowsOf_rising (below com t.num)
      rw [runM_snoc]
      show _ ++ [_] = _
      rw [h1, run_left hV _ (h.ok _ hme), done_read (changeR_rising _ hV).1 hx hwx]
      congr 2
      simp only [← h.own t ht]
      refine scan_agree (changeR_rising _ hV).1 (changeR_rising _ hs.rising).1 _ _ fun r hr => ?_
      exact mem_change _ hV hs.rising (below_agree h ht (late_nums hl) r hr).symm
  · rcases hI a ha with h5 | rfl
    · exact h.reads a h5 y hy hwy u hu hlt
    · rcases List.mem_append.1 hy with hy | hy
      · exact h.reads _ hme y hy hwy u hu hlt
      · simp at hy; subst hy
        intro c hc
        cases e : inSpan (spanOf y) c.key with
        | false => rfl
        | true =>
          have hne : u.id ≠ t.id := fun e2 => by obtain rfl := hid u hu e2; exact UInt32.lt_irrefl _ hlt
          exact absurd hlt (hun u.num (mem_under hu hne hc e))
  · rcases hI a ha with h5 | rfl
    · exact List.mem_append_left _ (h.looks a h5 y hy hwy u hu hlt)
    · rcases List.mem_append.1 hy with hy | hy
      · exact List.mem_append_left _ (h.looks _ hme y hy hwy u hu hlt)
      · simp at hy; subst hy; exact List.mem_append_right _ (by simp)
  · rcases hI a ha with h5 | rfl
    · exact h.le a h5
    · show t.num ≤ s.last
      exact h.le _ hme
theorem mem_setN {l : List (ByteArray × UInt32)} {k : ByteArray} {n : UInt32} : (k, n) ∈ setN l k n ∧ ∀ y ∈ l, y.1 ≠ k → y ∈ setN l k n := by
  unfold setN
  cases hf : l.findIdx? (fun p => decide (p.1 = k)) with
  | none => exact ⟨by simp, fun y hy _ => by simp [hy]⟩
  | some i =>
    obtain ⟨hi, hk, _⟩ := List.findIdx?_eq_some_iff_getElem.1 hf
    refine ⟨List.mem_set hi _, fun y hy hne => ?_⟩
    obtain ⟨j, hj, rfl⟩ := List.getElem_of_mem hy
    have hij : i ≠ j := fun e => by subst e; simp at hk; exact hne hk
    exact List.mem_iff_getElem.2 ⟨j, by simpa using hj, by rw [List.getElem_set_ne hij]⟩
theorem keptG_in {nums : List (ByteArray × UInt32)} {n : UInt32} : ∀ cs : List ChgM, ∀ c ∈ cs, (c.key, n) ∈ keptG nums n cs := by
  refine snoc_ind (by simp) fun cs c ih c' hc' => ?_
  rw [keptG_snoc]
  by_cases e : c'.key = c.key
  · rw [e]; exact mem_setN.1
  · rcases List.mem_append.1 hc' with h | h
    · exact mem_setN.2 _ (ih c' h) e
    · simp at h; subst h; exact absurd rfl e
theorem keptG_old {nums : List (ByteArray × UInt32)} {n : UInt32} {y : ByteArray × UInt32} (hy : y ∈ nums) : ∀ cs : List ChgM, (∀ c ∈ cs, c.key ≠ y.1) → y ∈ keptG nums n cs := by
  refine snoc_ind (fun _ => hy) fun cs c ih h => ?_
  rw [keptG_snoc]
  exact mem_setN.2 _ (ih fun c' hc' => h c' (by simp [hc'])) (fun e => h c (by simp) e.symm)
theorem Ser.com {s : GamV} {A B : List Pty} {o : Og} {b : Nat} {n : UInt32} {t : TxV} (h : Ser s (A ++ B) o) (hs : GamOk s b) (hf : findT s.txs n = some t) (hfit : fitsG s t) (hA : ∀ a ∈ A, a.num < t.num) (hB : ∀ a ∈ B, t.num < a.num) :
    Ser (comG s n) (A ++ ⟨t.num, (o t.id).1, (o t.id).2⟩ :: B) o := by
  obtain ⟨hid, A1, B1, hts, hdel, _⟩ := find_mid hf
  have ht := find_mem hf
  have hcom : comG s n = { endsG s n with d := (addW s.d s.at_ (frame (recG t)) (secs (recG t).length)).sync, at_ := s.at_ + secs (recG t).length, rows := changeR s.rows t.own, nums := keptG s.nums t.num t.own } := by
    simp only [comG, hf, commG, if_pos hfit]
  have hsub : ∀ u ∈ delT s.txs n, u ∈ s.txs := fun u hu => delT_sub.mem hu
  have hne : ∀ u ∈ delT s.txs n, u.id ≠ t.id := fun u hu => nodup_mid (hts ▸ hs.ids) u (hdel ▸ hu)
  have hp : Is (A ++ B) s.txs o ⟨t.num, (o t.id).1, (o t.id).2⟩ := .inr ⟨t, ht, rfl⟩
  have hown := h.own t ht
  have hI : ∀ a, Is (A ++ ⟨t.num, (o t.id).1, (o t.id).2⟩ :: B) (delT s.txs n) o a → Is (A ++ B) s.txs o a := fun a ha => by
    rcases ha with h1 | ⟨u, h1, h2⟩
    · rcases List.mem_append.1 h1 with h1 | h1
      · exact .inl (by simp [h1])
      · rcases List.mem_cons.1 h1 with rfl | h1
        · exact hp
        · exact .inl (by simp [h1])
    · exact .inr ⟨u, hsub u h1, h2⟩
  have hC : ∀ a ∈ A ++ (⟨t.num, (o t.id).1, (o t.id).2⟩ : Pty) :: B, a ∈ A ++ B ∨ a = ⟨t.num, (o t.id).1, (o t.id).2⟩ := fun a ha => by
    rcases List.mem_append.1 ha with h1 | h1
    · exact .inl (by simp [h1])
    · rcases List.mem_cons.1 h1 with rfl | h1
      · exact .inr rfl
      · exact .inl (by simp [h1])
  have hsA := (List.pairwise_append.1 h.sorted)
  rw [hcom]
  refine ⟨?_, ?_, fun u hu => h.own u (hsub u hu), fun a ha => h.ok a (hI a ha), fun a ha => ?_, fun a ha x hx hw u hu => h.reads a (hI a ha) x hx hw u (hsub u hu), fun a ha x hx hw u hu hlt => ?_, fun a ha => h.le a (hI a ha), fun u hu a ha => ?_, fun u hu v hv => h.uniq u (hsub u hu) v (hsub v hv), fun a ha c hc => ?_, fun u hu c hc a ha hlt c' hc' => ?_, fun u hu v hv => h.alone u (hsub u hu) v (hsub v hv)⟩
  · refine List.pairwise_append.2 ⟨hsA.1, List.pairwise_cons.2 ⟨hB, hsA.2.1⟩, fun a ha c hc => ?_⟩
    rcases List.mem_cons.1 hc with rfl | hc
    · exact hA a ha
    · exact hsA.2.2 a ha c hc
  · show changeR s.rows t.own = rowsOf (A ++ ⟨t.num, (o t.id).1, (o t.id).2⟩ :: B)
    rw [h.hrows, hown]
    unfold rowsOf
    have hdis : ∀ c ∈ chsL B, ∀ c' ∈ chs (o t.id).1, c.key ≠ c'.key := fun c hc c' hc' => by
      obtain ⟨a, ha, hca⟩ := mem_chsL.1 hc
      exact h.fresh t ht c' (hown ▸ hc') a (by simp [ha]) (hB a ha) c hca
    have e1 : chsL (A ++ B) = chsL A ++ chsL B := chsL_app A B
    have e2 : chsL (A ++ ⟨t.num, (o t.id).1, (o t.id).2⟩ :: B) = chsL A ++ (chs (o t.id).1 ++ chsL B) := by simp [chsL]
    rw [e1, e2, change_app [] (chsL A) (chsL B), change_app [] (chsL A), ← change_app]
    exact change_swap (changeR_rising _ List.Pairwise.nil).1 _ _ hdis
  · have hex := h.expl a (hI a ha)
    by_cases hlt : t.num < a.num
    · have e1 : below (A ++ ⟨t.num, (o t.id).1, (o t.id).2⟩ :: B) a.num = below A a.num ++ ⟨t.num, (o t.id).1, (o t.id).2⟩ :: below B a.num := by simp [below, hlt]
      have e2 : below (A ++ B) a.num = below A a.num ++ below B a.num := by simp [below]
      rw [← hex]
      refine run_agree (rowsOf_rising _) (rowsOf_rising _) a.ops (h.ok a (hI a ha)) fun x hx hw r hr => ?_
      rw [e1, e2]
      unfold rowsOf
      rw [show chsL (below A a.num ++ ⟨t.num, (o t.id).1, (o t.id).2⟩ :: below B a.num) = chsL (below A a.num) ++ (chs (o t.id).1 ++ chsL (below B a.num)) by simp [chsL], chsL_app, change_app, change_app, change_app]
      have hV := (changeR_rising (chsL (below A a.num)) List.Pairwise.nil).1
      refine mem_change _ (changeR_rising _ hV).1 hV (mem_change_skip _ hV fun c hc e => ?_)
      have := h.reads a (hI a ha) x hx hw t ht hlt c (hown ▸ hc)
      rw [e, hr] at this; cases this
    · have e1 : below (A ++ ⟨t.num, (o t.id).1, (o t.id).2⟩ :: B) a.num = below (A ++ B) a.num := by simp [below, hlt]
      rw [e1]; exact hex
  · refine List.mem_filter.2 ⟨h.looks a (hI a ha) x hx hw u (hsub u hu) hlt, ?_⟩
    have h1 := (minL_le (ts := delT s.txs n) (m := s.last)).2 u hu
    simp only [Bool.not_eq_true', decide_eq_false_iff_not]
    intro h2
    exact UInt32.lt_irrefl _ (UInt32.lt_trans (UInt32.lt_of_lt_of_le h2 h1) hlt)
  · rcases hC a ha with h5 | rfl
    · exact h.apart u (hsub u hu) a h5
    · exact fun e => hne u hu (h.uniq u (hsub u hu) t ht e)
  · rcases hC a ha with h5 | rfl
    · by_cases hk : ∃ c' ∈ t.own, c'.key = c.key
      · obtain ⟨c', hc', e⟩ := hk
        refine ⟨t.num, e ▸ keptG_in t.own c' hc', ?_⟩
        refine UInt32.not_lt.1 fun hlt => ?_
        exact h.fresh t ht c' hc' a h5 hlt c hc e.symm
      · obtain ⟨m, hm, hle⟩ := h.known a h5 c hc
        exact ⟨m, keptG_old hm t.own (fun c' hc' e => hk ⟨c', hc', e⟩), hle⟩
    · exact ⟨t.num, keptG_in t.own c (hown ▸ hc), UInt32.le_refl _⟩
  · rcases hC a ha with h5 | rfl
    · exact h.fresh u (hsub u hu) c hc a h5 hlt c' hc'
    · exact h.alone t ht u (hsub u hu) (hne u hu).symm c' (hown ▸ hc') c hc
/-- As if they had been done one behind the other. -/
theorem Ser.run {s : GamV} {com : List Pty} {o : Og} (h : Ser s com o) {k : Nat} {a : Pty} (ha : com[k]? = some a) : (runM (rowsOf (com.take k)) a.ops).1 = a.res ∧ (runM (rowsOf (com.take k)) a.ops).2 = rowsOf (com.take (k + 1)) ∧ ∀ x ∈ a.ops, opOk x = true := by
  have hm : Is com s.txs o a := .inl (List.mem_of_getElem? ha)
  have hlt := idx_lt ha
  have e : below com a.num = com.take k := by
    have hsp : com = com.take k ++ a :: com.drop (k + 1) := by
      rw [List.getElem?_eq_getElem hlt] at ha; cases ha
      rw [List.getElem_cons_drop, List.take_append_drop]
    have hs := h.sorted
    rw [hsp] at hs
    have hp := List.pairwise_append.1 hs
    have hq := List.pairwise_cons.1 hp.2.1
    unfold below
    conv => lhs; rw [hsp]
    rw [List.filter_append, List.filter_cons, if_neg (by simp [UInt32.lt_irrefl])]
    have h1 : (com.take k).filter (fun b => decide (b.num < a.num)) = com.take k := by
      rw [List.filter_eq_self]; intro b hb; simpa using hp.2.2 b hb a (by simp)
    have h2 : (com.drop (k + 1)).filter (fun b => decide (b.num < a.num)) = [] := by
      rw [List.filter_eq_nil_iff]; intro b hb hlt2
      have := hq.1 b hb
      simp at hlt2
      exact UInt32.lt_irrefl _ (UInt32.lt_trans this hlt2)
    rw [h1, h2, List.append_nil]
  refine ⟨by rw [← e]; exact h.expl a hm, ?_, h.ok a hm⟩
  rw [run_left (rowsOf_rising _) _ (h.ok a hm), take_snoc ha]
  unfold rowsOf
  rw [chsL_app, change_app]
  simp [chsL]
theorem chs_ok {ops : List OpM} (h : ∀ x ∈ ops, opOk x = true) : ∀ c ∈ chs ops, chgOk c = true := fun c hc => by
  obtain ⟨x, hx, rfl⟩ := List.mem_map.1 hc
  obtain ⟨h1, h2⟩ := List.mem_filter.1 hx
  exact chgOf_ok (h x h1) h2
theorem Ser.keys {s : GamV} {com : List Pty} {o : Og} (h : Ser s com o) (k : Nat) : KeysOk (rowsOf (com.take k)) :=
  changeR_keys List.Pairwise.nil (by simp [KeysOk]) fun c hc => by
    obtain ⟨a, ha, hca⟩ := mem_chsL.1 hc
    exact chs_ok (h.ok a (.inl (List.mem_of_mem_take ha))) c hca
/-! what the law keeps of the transactions, joined to the store -/
structure DidV where
  id : UInt32
  p : Nat
  num : UInt32
  os : SV
  ops : List OpM
  ls : SV
  l : List (SV × List RowM)
def DidV.pty (d : DidV) : Pty := ⟨d.num, d.ops, d.l.map (·.2)⟩
def didC (d : DidV) : List Value := [.int .u32 d.num.toNat, d.os.v, d.ls.v]
theorem didE : EncOk 3 didC := ⟨fun _ => rfl, fun _ => rfl⟩
structure ActM where
  kind : UInt8
  tx : UInt32
  op : OpM
  keep : Int
  torn : Int
def ActM.c (x : ActM) : List Value := [.int .u8 x.kind.toNat, .int .u32 x.tx.toNat, .int .u8 x.op.kind.toNat, .string x.op.key, .string x.op.to, .int .u32 x.op.val.toNat, .int .u64 x.keep, .int .i64 x.torn]
theorem actE : EncOk 8 ActM.c := ⟨fun _ => rfl, fun _ => rfl⟩
section
variable {κ : Type} [DecidableEq κ]
theorem mset_cons (p : κ × Value) (kvs : List (κ × Value)) (k : κ) (v : Value) : mset (p :: kvs) k v = if p.1 = k then (k, v) :: kvs else p :: mset kvs k v := by
  unfold mset midx
  rw [List.findIdx?_cons]
  by_cases h : p.1 = k
  · simp [h]
  · simp only [h, decide_false]
    cases List.findIdx? (fun p : κ × Value => decide (p.1 = k)) kvs <;> simp
theorem mget_mset (kvs : List (κ × Value)) (k n : κ) (v : Value) : mget (mset kvs k v) n = if n = k then some v else mget kvs n := by
  induction kvs with
  | nil => unfold mset midx mget; by_cases h : k = n <;> simp [h, eq_comm]
  | cons p kvs ih =>
    rw [mset_cons]
    by_cases h : p.1 = k
    · rw [if_pos h]
      unfold mget
      rw [List.find?_cons, List.find?_cons]
      by_cases h2 : n = k
      · subst h2; simp
      · have h3 : k ≠ n := fun e => h2 e.symm
        simp [h, h2, h3]
    · rw [if_neg h]
      unfold mget at ih ⊢
      rw [List.find?_cons, List.find?_cons]
      by_cases h4 : p.1 = n
      · have h2 : n ≠ k := fun e => h (h4.trans e)
        simp [h4, h2]
      · simp only [h4, decide_false]; exact ih
end
def findD (F : List DidV) (n : UInt32) : Option DidV := F.find? fun d => decide (d.id = n)
def delD (F : List DidV) (n : UInt32) : List DidV := F.filter fun d => !decide (d.id = n)
theorem findD_cons (d : DidV) (F : List DidV) (m : UInt32) : findD (d :: F) m = if d.id = m then some d else findD F m := by
  unfold findD; rw [List.find?_cons]
  by_cases h : d.id = m <;> simp [h]
theorem findD_del (F : List DidV) (n m : UInt32) : findD (delD F n) m = if m = n then none else findD F m := by
  induction F with
  | nil => simp [findD, delD]
  | cons d F ih =>
    unfold delD at ih ⊢
    rw [List.filter_cons]
    by_cases h : d.id = n
    · simp only [h, decide_true, Bool.not_true, Bool.false_eq_true, if_false]
      rw [ih, findD_cons]
      by_cases h2 : m = n
      · simp [h2]
      · have : d.id ≠ m := fun e => h2 (e.symm.trans h)
        simp [h2, this]
    · simp only [h, decide_false, Bool.not_false, if_true]
      rw [findD_cons, findD_cons, ih]
      by_cases h2 : d.id = m
      · have : m ≠ n := fun e => h (h2.trans e)
        simp [h2, this]
      · simp [h2]
theorem findD_id {F : List DidV} {n : UInt32} {d : DidV} (h : findD F n = some d) : d ∈ F ∧ d.id = n := by
  unfold findD at h
  exact ⟨List.mem_of_find?_eq_some h, by have := List.find?_some h; simpa using this⟩
theorem delD_mem {F : List DidV} {n : UInt32} {d : DidV} (h : d ∈ delD F n) : d ∈ F := (List.mem_filter.1 h).1
def OpenOk (kvs : List (UInt32 × Value)) (F : List DidV) : Prop := ∀ n, (mget kvs n).getD (.pointer none) = .pointer ((findD F n).map fun d => ⟨d.p, 0, none⟩)
theorem OpenOk.nil {kvs : List (UInt32 × Value)} {F : List DidV} (h : OpenOk kvs F) (n : UInt32) : OpenOk (mset kvs n (.pointer none)) (delD F n) := fun m => by
  rw [mget_mset, findD_del]
  by_cases e : m = n
  · simp [e]
  · rw [if_neg e, if_neg e]; exact h m
theorem OpenOk.new {kvs : List (UInt32 × Value)} {F : List DidV} (h : OpenOk kvs F) (d : DidV) : OpenOk (mset kvs d.id (.pointer (some ⟨d.p, 0, none⟩))) (d :: delD F d.id) := fun m => by
  rw [mget_mset, findD_cons, findD_del]
  by_cases e : m = d.id
  · simp [e]
  · rw [if_neg e, if_neg e, if_neg (fun e2 => e e2.symm)]; exact h m
theorem OpenOk.upd {kvs : List (UInt32 × Value)} {F : List DidV} (h : OpenOk kvs F) {n : UInt32} {d d' : DidV} (hf : findD F n = some d) (hi : d'.id = n) (hp : d'.p = d.p) : OpenOk kvs (d' :: delD F n) := fun m => by
  rw [findD_cons, findD_del, hi]
  by_cases e : n = m
  · subst e; rw [if_pos rfl, h, hf]; simp [hp]
  · rw [if_neg e, if_neg (fun e2 => e e2.symm)]; exact h m
def ogD (F : List DidV) : Og := fun n => match findD F n with
  | some d => (d.ops, d.l.map (·.2))
  | none => ([], [])
theorem ogD_some {F : List DidV} {n : UInt32} {d : DidV} (h : findD F n = some d) : ogD F n = (d.ops, d.l.map (·.2)) := by unfold ogD; rw [h]
theorem ogD_set (F : List DidV) {n : UInt32} {d : DidV} (h : d.id = n) : ogD (d :: delD F n) = setO (ogD F) n (d.ops, d.l.map (·.2)) := by
  funext m
  unfold setO ogD
  rw [findD_cons, findD_del, h]
  by_cases e : n = m
  · simp [e]
  · have : m ≠ n := fun e2 => e e2.symm
    simp [e, this]
theorem find_id {ts : List TxV} {n : UInt32} {t : TxV} (h : findT ts n = some t) : t.id = n := (find_mid h).1
theorem find_no {ts : List TxV} {n : UInt32} (h : findT ts n = none) : ∀ t ∈ ts, t.id ≠ n := by
  unfold findT at h
  rw [List.find?_eq_none] at h
  intro t ht; simpa using h t ht
theorem delT_no {s : GamV} {b : Nat} (h : GamOk s b) (n : UInt32) : ∀ t ∈ delT s.txs n, t.id ≠ n := by
  cases hf : findT s.txs n with
  | none => exact fun t ht => find_no hf t (delT_sub.mem ht)
  | some t =>
    obtain ⟨hid, A, B, hts, hdel, _⟩ := find_mid hf
    intro u hu
    rw [← hid]
    exact nodup_mid (hts ▸ h.ids) u (hdel ▸ hu)
theorem doG_err {s s' : GamV} {n : UInt32} {x : OpM} {e : Nat} (h : doG s n x = .err s' e) : e ≠ 0 ∧ (s' = s ∨ s' = endsG s n) := by
  unfold doG at h
  split at h
  · cases hf : findT s.txs n with
    | none => rw [hf] at h; cases h; exact ⟨by decide, .inl rfl⟩
    | some t =>
      rw [hf] at h
      simp only at h
      split at h
      · cases h; exact ⟨by decide, .inr rfl⟩
      · split at h
        · cases h; exact ⟨by decide, .inl rfl⟩
        · split at h <;> cases h
  · cases h; exact ⟨by decide, .inl rfl⟩
/-- One round of the law: the store, what is open, what was committed. -/
structure SerL (i : Nat) (s : GamV) (F all : List DidV) (kvs : List (UInt32 × Value)) : Prop where
  ok : GamOk s i
  last : s.last.toNat ≤ i
  ser : Ser s (all.map DidV.pty) (ogD F)
  has : ∀ t ∈ s.txs, (findD F t.id).isSome = true
  opn : OpenOk kvs F
  len : all.length ≤ i
  lenF : ∀ d ∈ F, d.ops.length ≤ i ∧ d.l.length ≤ i
  lenA : ∀ d ∈ all, d.ops.length ≤ i ∧ d.l.length ≤ i
theorem SerL.first {d : DiskM} (h : Quiet d) : SerL 0 (gam0 d) [] [] [] :=
  ⟨gam0_ok h, Nat.le_refl _, Ser.init d _, (by intro t h; cases h), fun n => rfl, Nat.le_refl _, (by intro t h; cases h), (by intro t h; cases h)⟩
section
variable {i : Nat} {s : GamV} {F all : List DidV} {kvs : List (UInt32 × Value)}
theorem SerL.mono (h : SerL i s F all kvs) (hi : i < 1000) : SerL (i + 1) s F all kvs :=
  ⟨h.ok.mono (Nat.le_succ _) (by omega), Nat.le_succ_of_le h.last, h.ser, h.has, h.opn, Nat.le_succ_of_le h.len, fun d hd => by have := h.lenF d hd; omega, fun d hd => by have := h.lenA d hd; omega⟩
theorem SerL.beg0 {n : UInt32} (h : begE s n ≠ 0) (q : Nat) : begG s n q = s := by rw [begG, if_neg h]
theorem SerL.beg (h : SerL i s F all kvs) (hi : i < 1000) {n : UInt32} (hE : begE s n = 0) (q b : Nat) :
    SerL (i + 1) (begG s n q) (⟨n, b, 0, ⟨none, 0, 0⟩, [], ⟨none, 0, 0⟩, []⟩ :: delD F n) all (mset kvs n (.pointer (some ⟨b, 0, none⟩))) := by
  have h2 := h.mono hi
  have hB : begG s n q = { s with last := s.last + 1, txs := s.txs ++ [⟨n, s.last + 1, [], q, ⟨none, 0, 0⟩⟩] } := by rw [begG, if_pos hE]
  refine ⟨h2.ok.beg n q, ?_, ?_, fun t ht => ?_, h.opn.new ⟨n, b, 0, ⟨none, 0, 0⟩, [], ⟨none, 0, 0⟩, []⟩, h2.len, fun d hd => ?_, h2.lenA⟩
  · rw [hB]
    show (s.last + 1).toNat ≤ i + 1
    have := h.last
    rw [UInt32.toNat_add]; simp; omega
  · rw [ogD_set F (d := ⟨n, b, 0, ⟨none, 0, 0⟩, [], ⟨none, 0, 0⟩, []⟩) rfl]
    exact h.ser.beg hE (by have := h.last; omega) q
  · rw [findD_cons, findD_del]
    by_cases e : n = t.id
    · simp [e]
    · rw [if_neg e, if_neg (fun e2 => e e2.symm)]
      rw [hB] at ht
      rcases List.mem_append.1 ht with ht | ht
      · exact h.has t ht
      · simp at ht; subst ht; exact absurd rfl e
  · rcases List.mem_cons.1 hd with rfl | hd
    · exact ⟨Nat.zero_le _, Nat.zero_le _⟩
    · exact h2.lenF d (delD_mem hd)
theorem SerL.ends (h : SerL i s F all kvs) (n : UInt32) : SerL i (endsG s n) F all kvs :=
  ⟨h.ok.ends n, h.last, h.ser.ends n, fun t ht => h.has t (delT_sub.mem ht), h.opn, h.len, h.lenF, h.lenA⟩
theorem SerL.gone (h : SerL i s F all kvs) (hi : i < 1000) {n : UInt32} (hn : ∀ t ∈ s.txs, t.id ≠ n) : SerL (i + 1) s (delD F n) all (mset kvs n (.pointer none)) := by
  have h2 := h.mono hi
  refine ⟨h2.ok, h2.last, h.ser.congr fun t ht => ?_, fun t ht => ?_, h.opn.nil n, h2.len, fun d hd => h2.lenF d (delD_mem hd), h2.lenA⟩
  · unfold ogD; rw [findD_del, if_neg (hn t ht)]
  · rw [findD_del, if_neg (hn t ht)]; exact h.has t ht
theorem SerL.abo (h : SerL i s F all kvs) (hi : i < 1000) (n : UInt32) : SerL (i + 1) (aboG s n) (delD F n) all (mset kvs n (.pointer none)) := by
  unfold aboG
  split
  · exact (h.ends n).gone hi (delT_no h.ok n)
  · rename_i hf
    exact h.gone hi (find_no (by simpa using hf))
theorem SerL.comF (h : SerL i s F all kvs) (hi : i < 1000) {n : UInt32} (hE : comE s n ≠ 0) : SerL (i + 1) (comG s n) (delD F n) all (mset kvs n (.pointer none)) := by
  cases hf : findT s.txs n with
  | none =>
    rw [show comG s n = s by simp [comG, hf]]
    exact h.gone hi (find_no hf)
  | some t =>
    have hnf : ¬ fitsG s t := fun hfit => hE (by simp [comE, hf, hfit])
    rw [show comG s n = endsG s n by simp [comG, hf, commG, hnf]]
    exact (h.ends n).gone hi (delT_no h.ok n)
theorem SerL.com (h : SerL i s F all kvs) {n : UInt32} (hE : comE s n = 0) : ∃ t d, findT s.txs n = some t ∧ comN s n = t.num ∧ findD F n = some d ∧ fitsG s t ∧ ∀ a ∈ all, a.num ≠ t.num := by
  cases hf : findT s.txs n with
  | none => simp [comE, hf] at hE
  | some t =>
    have hfit : fitsG s t := by
      by_cases hfit : fitsG s t
      · exact hfit
      · simp [comE, hf, hfit] at hE
    obtain ⟨d, hd⟩ := Option.isSome_iff_exists.1 (h.has t (find_mem hf))
    rw [find_id hf] at hd
    exact ⟨t, d, rfl, by simp [comN, hf, hfit], hd, hfit, fun a ha e => h.ser.apart t (find_mem hf) a.pty (List.mem_map.2 ⟨a, ha, rfl⟩) e.symm⟩
theorem SerL.com2 (h : SerL i s F all kvs) (hi : i < 1000) {n : UInt32} {t : TxV} {d : DidV} (hf : findT s.txs n = some t) (hd : findD F n = some d) (hfit : fitsG s t) (hno : ∀ a ∈ all, a.num ≠ t.num) {k : Nat}
    (h1 : ∀ a ∈ all.take k, a.num < t.num) (h2 : ∀ a, all[k]? = some a → ¬ a.num < t.num) : SerL (i + 1) (comG s n) (delD F n) (all.take k ++ { d with num := t.num } :: all.drop k) (mset kvs n (.pointer none)) := by
  have hm := h.mono hi
  have hid := find_id hf
  have htx : (comG s n).txs = delT s.txs n := comG_txs hf
  have hno2 : ∀ u ∈ (comG s n).txs, u.id ≠ n := fun u hu => delT_no h.ok n u (htx ▸ hu)
  have hsub : ∀ u ∈ (comG s n).txs, u ∈ s.txs := fun u hu => delT_sub.mem (htx ▸ hu)
  have hB : ∀ a ∈ all.drop k, t.num < a.num := fun a ha => by
    have hlt : k < all.length := by
      rcases Nat.lt_or_ge k all.length with h | h
      · exact h
      · rw [List.drop_of_length_le h] at ha; cases ha
    have hk : all[k]? = some all[k] := List.getElem?_eq_getElem hlt
    have h3 : t.num < all[k].num := by
      have h4 := h2 _ hk
      have h5 := hno _ (List.mem_of_getElem? hk)
      rcases UInt32.lt_or_eq_of_le (UInt32.not_lt.1 h4) with h6 | h6
      · exact h6
      · exact absurd h6.symm h5
    rw [← List.getElem_cons_drop hlt] at ha
    rcases List.mem_cons.1 ha with rfl | ha
    · exact h3
    · have hs := h.ser.sorted
      rw [show all = all.take k ++ (all[k] :: all.drop (k + 1)) by rw [List.getElem_cons_drop, List.take_append_drop], List.map_append, List.map_cons] at hs
      have h7 := (List.pairwise_cons.1 (List.pairwise_append.1 hs).2.1).1 a.pty (List.mem_map.2 ⟨a, ha, rfl⟩)
      exact UInt32.lt_trans h3 h7
  have hog : ogD F t.id = (d.ops, d.l.map (·.2)) := ogD_some (hid ▸ hd)
  have hser : Ser s ((all.take k).map DidV.pty ++ (all.drop k).map DidV.pty) (ogD F) := by rw [← List.map_append, List.take_append_drop]; exact h.ser
  have hc := hser.com h.ok hf hfit (fun a ha => by obtain ⟨b, hb, rfl⟩ := List.mem_map.1 ha; exact h1 b hb) (fun a ha => by obtain ⟨b, hb, rfl⟩ := List.mem_map.1 ha; exact hB b hb)
  rw [hog] at hc
  have hl : (comG s n).last = s.last := by simp [comG, hf, commG, hfit, endsG]
  refine ⟨hm.ok.com n, by rw [hl]; exact hm.last, ?_, fun t ht => ?_, h.opn.nil n, ?_, fun d hd => hm.lenF d (delD_mem hd), fun a ha => ?_⟩
  · rw [List.map_append, List.map_cons]
    refine hc.congr fun u hu => ?_
    unfold ogD; rw [findD_del, if_neg (hno2 u hu)]
  · rw [findD_del, if_neg (hno2 t ht)]; exact h.has t (hsub t ht)
  · have := h.len; simp; omega
  · rcases List.mem_append.1 ha with ha | ha
    · exact hm.lenA a (List.mem_of_mem_take ha)
    · rcases List.mem_cons.1 ha with rfl | ha
      · exact hm.lenF d (findD_id hd).1
      · exact hm.lenA a (List.mem_of_mem_drop ha)
theorem SerL.err (h : SerL i s F all kvs) (hi : i < 1000) {n : UInt32} {x : OpM} {s' : GamV} {e : Nat} (he : doG s n x = .err s' e) : e ≠ 0 ∧ SerL (i + 1) s' F all kvs := by
  obtain ⟨h1, h2 | h2⟩ := doG_err he
  · subst h2; exact ⟨h1, h.mono hi⟩
  · subst h2; exact ⟨h1, (h.ends n).mono hi⟩
theorem SerL.upd (h : SerL i s F all kvs) (hi : i < 1000) {n : UInt32} {x : OpM} {s' : GamV} {d : DidV} {r : SV × List RowM} (hd : findD F n = some d) (hok : GamOk s' (i + 1)) (hl : s'.last = s.last) (ht : ∀ t ∈ s'.txs, ∃ u ∈ s.txs, t.id = u.id)
    (hs : Ser s' (all.map DidV.pty) (setO (ogD F) n ((ogD F n).1 ++ [x], (ogD F n).2 ++ [r.2]))) (os ls : SV) : SerL (i + 1) s' ({ d with os := os, ops := d.ops ++ [x], ls := ls, l := d.l ++ [r] } :: delD F n) all kvs := by
  have hm := h.mono hi
  obtain ⟨hdm, hid⟩ := findD_id hd
  refine ⟨hok, by rw [hl]; exact hm.last, ?_, fun t htt => ?_, h.opn.upd hd hid rfl, hm.len, fun a ha => ?_, hm.lenA⟩
  · rw [ogD_set F (n := n) (by exact hid)]
    rw [ogD_some hd] at hs
    simpa using hs
  · rw [findD_cons, findD_del]
    by_cases e : d.id = t.id
    · rw [if_pos e]; rfl
    · rw [if_neg e, if_neg (fun e2 => e (hid.trans e2.symm))]
      obtain ⟨u, hu, e3⟩ := ht t htt
      rw [e3]; exact h.has u hu
  · rcases List.mem_cons.1 ha with rfl | ha
    · have := h.lenF d hdm; simp; omega
    · exact hm.lenF a (delD_mem ha)
theorem SerL.put (h : SerL i s F all kvs) (hi : i < 1000) {n : UInt32} {x : OpM} {t : TxV} {c : ChgM} (hd : doG s n x = .put t c) (sv : SV) : ∃ d, findD F n = some d ∧ ∀ os ls, SerL (i + 1) (putG s t.id c sv) ({ d with os := os, ops := d.ops ++ [x], ls := ls, l := d.l ++ [((⟨none, 0, 0⟩ : SV), ([] : List RowM))] } :: delD F n) all kvs := by
  obtain ⟨hx, hf, hl, hun, hp, _⟩ := doG_inv (.inl ⟨c, hd⟩)
  obtain ⟨hwx, hc⟩ := hp c hd
  obtain ⟨d, he⟩ := Option.isSome_iff_exists.1 (h.has t (find_mem hf))
  obtain rfl := find_id hf
  have hs := h.ser.put h.ok hd sv
  refine ⟨d, he, h.upd hi (x := x) (r := (⟨none, 0, 0⟩, [])) he ?_ rfl (fun u hu => ?_) hs⟩
  · exact h.ok.put (by omega) (find_mem hf) c (hc ▸ chgOf_ok hx hwx) sv
  · obtain ⟨v, hv, rfl⟩ := List.mem_map.1 (show u ∈ putT s.txs t.id c sv from hu)
    exact ⟨v, hv, by split <;> rfl⟩
theorem SerL.look (h : SerL i s F all kvs) (hi : i < 1000) {n : UInt32} {x : OpM} {t : TxV} (hd : doG s n x = .look t) (sv : SV) : ∃ d, findD F n = some d ∧ ∀ os ls, SerL (i + 1) (lookG s t (spanOf x)) ({ d with os := os, ops := d.ops ++ [x], ls := ls, l := d.l ++ [(sv, scanR (changeR s.rows t.own) (spanOf x) 256)] } :: delD F n) all kvs := by
  obtain ⟨hx, hf, hl, hun, _, hp⟩ := doG_inv (.inr hd)
  obtain ⟨d, he⟩ := Option.isSome_iff_exists.1 (h.has t (find_mem hf))
  obtain rfl := find_id hf
  have hs := h.ser.look h.ok hd
  exact ⟨d, he, h.upd hi (x := x) (r := (sv, scanR (changeR s.rows t.own) (spanOf x) 256)) he (h.ok.look (by omega) t _) rfl (fun u hu => ⟨u, hu, rfl⟩) hs⟩
/-! at the end -/
def rowsA (all : List DidV) (k : Nat) : List RowM := rowsOf ((all.take k).map DidV.pty)
theorem SerL.run (h : SerL i s F all kvs) {k : Nat} {a : DidV} (ha : all[k]? = some a) :
    (runM (rowsA all k) a.ops).1 = a.l.map (·.2) ∧ (runM (rowsA all k) a.ops).2 = rowsA all (k + 1) ∧ (∀ x ∈ a.ops, opOk x = true) ∧ Rising (rowsA all k) ∧ KeysOk (rowsA all k) ∧ (rowsA all (k + 1)).length ≤ (rowsA all k).length + i ∧ a.ops.length ≤ i ∧ a.l.length ≤ i := by
  have hk : (all.map DidV.pty)[k]? = some a.pty := by rw [List.getElem?_map, ha]; rfl
  obtain ⟨h1, h2, h3⟩ := h.ser.run hk
  have h4 := h.ser.keys k
  have hr : Rising (rowsA all k) := rowsOf_rising _
  rw [← List.map_take] at h1 h2 h4
  rw [← List.map_take] at h2
  have h5 := h.lenA a (List.mem_of_getElem? ha)
  have h6 := (runM_rows hr a.ops).2.1
  refine ⟨h1, h2, h3, hr, h4, ?_, h5⟩
  rw [show rowsA all (k + 1) = (runM (rowsA all k) a.ops).2 from h2.symm]
  omega
theorem SerL.done (h : SerL i s F all kvs) : s.rows = rowsA all all.length := by
  rw [h.ser.hrows]; unfold rowsA; rw [List.take_length]
end
/-! pieces -/
theorem app_bun {M : List HP} : ∀ {L : List HP} {S : Piece}, stars (L ++ M) S → stars (L ++ [bun M]) S
  | [], S, h => bun_stars (L := M) (M := []) (by simpa using h)
  | A :: L, S, h => stars_cons (L := L ++ M) (fun S h => app_bun h) h
theorem unapp_bun {M : List HP} : ∀ {L : List HP} {S : Piece}, stars (L ++ [bun M]) S → stars (L ++ M) S
  | [], S, h => by have := stars_bun (L := M) (M := []) h; simpa using this
  | A :: L, S, h => stars_cons (L := L ++ [bun M]) (fun S h => unapp_bun h) h
theorem bun_mid_out {α : Type} {f : α → List HP} {A B : List α} {x : α} {S : Piece} (h : bun ((A ++ x :: B).map fun a => bun (f a)) S) : stars (f x ++ [bun ((A ++ B).map fun a => bun (f a))]) S := by
  unfold bun at h
  rw [List.map_append, List.map_cons] at h
  have h2 := stars_bun (stars_unmove h)
  rw [List.map_append]
  exact app_bun h2
theorem bun_mid_in {α : Type} {f : α → List HP} {A B : List α} {x : α} {S : Piece} (h : stars (f x ++ [bun ((A ++ B).map fun a => bun (f a))]) S) : bun ((A ++ x :: B).map fun a => bun (f a)) S := by
  unfold bun
  rw [List.map_append, List.map_cons]
  rw [List.map_append] at h
  exact stars_move (bun_stars (unapp_bun h))
theorem dids_sub {f : DidV → HP} {n : UInt32} : ∀ {F : List DidV} {S : Piece}, stars (F.map f) S → stars ((delD F n).map f) S
  | [], S, h => h
  | x :: F, S, h => by
    by_cases e : x.id = n
    · rw [show delD (x :: F) n = delD F n by simp [delD, e]]
      exact dids_sub (stars_tail h)
    · rw [show delD (x :: F) n = x :: delD F n by simp [delD, e]]
      exact stars_cons (fun S h => dids_sub h) h
theorem dids_find {f : DidV → HP} {n : UInt32} {d : DidV} : ∀ {F : List DidV}, findD F n = some d → ∀ {S : Piece}, stars (F.map f) S → stars (f d :: (delD F n).map f) S
  | [], h, S, hS => by simp [findD] at h
  | x :: F, h, S, hS => by
    rw [findD_cons] at h
    by_cases e : x.id = n
    · rw [if_pos e] at h
      obtain rfl := Option.some.inj h
      rw [show delD (x :: F) n = delD F n by simp [delD, e]]
      exact stars_cons (fun S h => dids_sub h) hS
    · rw [if_neg e] at h
      rw [show delD (x :: F) n = x :: delD F n by simp [delD, e]]
      exact stars_swap (stars_cons (fun S h' => dids_find h h') hS)
section
variable {P : Program} {r : Option Nat} {g : World} {Γ : Env} {L M : List HP} {dst : Option Tmp} {t : TypeId} {pos : String} {aft : Array Edge} {gd : Option (Nat × Bool)}
theorem e_lookD {x i : Operand} {T e kt : TypeId} {d : TypeDesc} {n : UInt32} {F : List DidV} {kvs : List (UInt32 × Value)} {m : Value} (ht : P.underlying T = some (.map kt e)) (hk : KeyOk P kt d eU32) (hz : (P.info? e).bind (·.zero) = some (.pointer none)) (ho : OpenOk kvs F) (hx : ev Γ x = some m := by rfl) (hi : ev Γ i = some (.int .u32 n.toNat) := by rfl) (hp : Pick L (Mp eU32 m kvs) M := by repeat first | exact .z | apply Pick.s) :
    EO P g ⟨dst, .lookup T x i false, t, pos, aft, gd⟩ Γ L (.pointer ((findD F n).map fun d => ⟨d.p, 0, none⟩)) := by
  have h := e_lookup (g := g) (L := L) (dst := dst) (t := t) (pos := pos) (aft := aft) (gd := gd) (x := x) (i := i) (k := n) ht hk hz hx hi hp
  rw [ho n] at h
  exact h
end
end Go.SL

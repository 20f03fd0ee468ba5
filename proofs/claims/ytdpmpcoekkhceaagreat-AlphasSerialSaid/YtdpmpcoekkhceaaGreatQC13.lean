/- N3 N4 SLz N5 N6 N7 N9 NA: rules and walks, several texts in one. -/
import Derived.Test.YtdpmpcoekkhceaaGreatQC12
import Derived.Shelf.SlSortCmp.WholeK
import Derived.Shelf.SlSortCmp.Whole1
/- A store of transactions, in plain Lean: a transaction alone; what is left on a disk. -/
set_option linter.unusedSimpArgs false
set_option linter.unusedVariables false
set_option linter.unusedSectionVars false
namespace Go.SL
open Go
/-- A kind of store, of which one transaction alone is open. -/
structure Solo {I : Kind} (G : Good I) where
  S : StV → UInt32 → List RowM → List ChgM → Prop
  txs : ∀ {s n rows own}, S s n rows own → ∃ t, s.txs = [t] ∧ t.id = n ∧ t.x.own = own ∧ s.rows = rows
  chk : ∀ {s n rows own b}, S s n rows own → G.Ok s b → ∀ t ∈ s.txs, I.chk s t.x = false
  bad : ∀ {s n x}, opOk x = false → I.doS s n x = .err s 1
  put : ∀ {s n rows own b x}, S s n rows own → G.Ok s b → opOk x = true → writes x = true → ∃ s', I.doS s n x = .put s' ∧ S s' n rows (own ++ [chgOf x])
  look : ∀ {s n rows own b x}, S s n rows own → G.Ok s b → opOk x = true → writes x = false → ∃ s', I.doS s n x = .look s' (scanR (changeR rows own) (spanOf x) 256) ∧ S s' n rows own
  beg : ∀ {s b n}, G.Ok s b → s.txs = [] → n ≠ 0 → ∀ q, S (begS s n q) n s.rows []
structure AloneC {I : Kind} {G : Good I} (Z : Solo G) (n : UInt32) (rows : List RowM) (at0 : Nat) (s : StV) (b : Nat) (done : List OpM) (told : List (List RowM)) : Prop where
  ok : G.Ok s b
  does : ∃ own, Z.S s n rows own ∧ Does rows own done told
  at_ : s.at_ ≤ at0
section
variable {I : Kind} {G : Good I} {Z : Solo G} {n : UInt32} {rows : List RowM} {at0 : Nat} {s : StV} {b : Nat} {done : List OpM} {told : List (List RowM)}
theorem AloneC.mono (h : AloneC Z n rows at0 s b done told) {c : Nat} (hb : b ≤ c) (hc : c ≤ 1000000000) : AloneC Z n rows at0 s c done told := ⟨G.mono h.ok hb hc, h.does, h.at_⟩
theorem AloneC.step (h : AloneC Z n rows at0 s b done told) (hb : b + 1 ≤ 1000000000) (x : OpM) :
    (opOk x = false ∧ I.doS s n x = .err s 1) ∨ (opOk x = true ∧ ∃ s', I.doS s n x = .put s' ∧ AloneC Z n rows at0 s' (b + 1) (done ++ [x]) (told ++ [[]])) ∨
    (opOk x = true ∧ ∃ s' r, I.doS s n x = .look s' r ∧ r.length ≤ 256 ∧ AloneC Z n rows at0 s' (b + 1) (done ++ [x]) (told ++ [r])) := by
  obtain ⟨own, hS, hD⟩ := h.does
  cases hx : opOk x with
  | false => exact .inl ⟨rfl, Z.bad hx⟩
  | true =>
    right
    cases hw : writes x with
    | true =>
      left
      obtain ⟨s', h1, h2⟩ := Z.put hS h.ok hx hw
      obtain ⟨_, _, _, _, _, _, hat, _, _, hok, _⟩ := G.put h.ok hb h1
      exact ⟨rfl, s', h1, hok, ⟨_, h2, hD.write hx hw⟩, by rw [hat]; exact h.at_⟩
    | false =>
      right
      obtain ⟨s', h1, h2⟩ := Z.look hS h.ok hx hw
      obtain ⟨_, _, _, _, _, _, hat, _, _, hok, hl, _⟩ := G.look h.ok hb h1
      refine ⟨rfl, s', _, h1, hl, hok, ⟨_, h2, hD.read ?_ hx hw⟩, by rw [hat]; exact h.at_⟩
      obtain ⟨_, _, _, _, hr⟩ := Z.txs hS
      rw [← hr]; exact s.rising
theorem AloneC.com (h : AloneC Z n rows at0 s b done told) (hb : b ≤ 90) (ha : at0 ≤ 1000) :
    comE I s n = 0 ∧ (comS I s n).rows = (runM rows done).2 ∧ (comS I s n).txs = [] ∧ (comS I s n).at_ ≤ at0 + 82 ∧ G.Ok (comS I s n) (b + 1) ∧ comN I s n = UInt32.ofNat s.H.length + 1 ∧ ∃ own, (comS I s n).H = s.H ++ [own] := by
  obtain ⟨own, hS, hD⟩ := h.does
  obtain ⟨t, ht, hid, ho, hr⟩ := Z.txs hS
  have hck := Z.chk hS h.ok t (by rw [ht]; simp)
  have hok := G.ok h.ok
  have hf : findU s.txs n = some t := by rw [ht]; simp [findU, hid]
  have hl : t.x.own.length ≤ 90 := by have := hok.own_le (t := t) (by rw [ht]; simp); omega
  have hc := (chgs_len t.x.own).2 (hok.own t (by rw [ht]; simp))
  have hlen := chgsB_len t.x.own
  have hat := h.at_
  have hfit : fitsS s t.x := ⟨by omega, by rw [hok.log.len]; unfold secs; omega⟩
  have hE : comE I s n = 0 := by simp [comE, hf, hck, hfit]
  have hS2 : comS I s n = addS (I.ends s n) t.x.own := by simp [comS, hf, hck, hfit]
  obtain ⟨e1, e2, e3, e4⟩ := G.endsE h.ok n
  refine ⟨hE, ?_, ?_, ?_, G.com h.ok (by omega) n, by rw [comN, if_pos hE], t.x.own, ?_⟩
  · rw [hS2, addS_rows]
    unfold StV.rows at hr ⊢
    rw [e3, hr, ho, hD.left]
  · rw [hS2]; show (I.ends s n).txs = []; rw [e4, ht]; simp [delU, hid]
  · rw [hS2]; show (I.ends s n).at_ + _ ≤ _; rw [e2]; unfold secs; omega
  · rw [hS2]; show (I.ends s n).H ++ _ = _; rw [e3]
theorem AloneC.abo (h : AloneC Z n rows at0 s b done told) : aboE s n = 0 ∧ (aboS I s n).rows = rows := by
  obtain ⟨own, hS, hD⟩ := h.does
  obtain ⟨t, ht, hid, ho, hr⟩ := Z.txs hS
  have hf : findU s.txs n = some t := by rw [ht]; simp [findU, hid]
  refine ⟨by simp [aboE, hf], ?_⟩
  rw [← hr]
  unfold aboS StV.rows
  rw [hf]
  simp only [Option.isSome_some, if_true]
  rw [(G.endsE h.ok n).2.2.1]
theorem AloneC.start (hs : G.Ok s b) (ht : s.txs = []) (hn : n ≠ 0) (hat : s.at_ ≤ at0) (q : Nat) : begE s n = 0 ∧ AloneC Z n s.rows at0 (begS s n q) b [] [] := by
  have hE : begE s n = 0 := by simp [begE, hn, ht, findU]
  refine ⟨hE, G.beg hs n q, ⟨[], Z.beg hs ht hn q, Does.nil _⟩, ?_⟩
  rw [begS, if_pos hE]; exact hat
end
/-! what is left on a disk -/
/-- A store that has been opened: on a disk that holds the records of 'H'. -/
def st0 (d : DiskM) (at0 : Nat) (H : List (List ChgM)) : StV := ⟨d, at0, H, 0, [], []⟩
theorem st0_first : StOk (st0 (newDisk 4096).sync 0 []) 0 := ⟨DiskLogB.first, by simp [st0], by simp [st0], by simp [st0], by simp [st0], by simp [st0], by simp [st0], by simp [st0], by decide⟩
/-- A store on a new disk. -/
def stF : StV := st0 (newDisk 4096).sync 0 []
theorem SerC.first {I : Kind} {G : Good I} (h : G.Ok stF 0) (hv : G.V stF (ogD [])) : SerC G 0 stF [] [] [] :=
  ⟨h, hv, rfl, by simp, by simp, by simp, by simp [stF, st0], fun n => rfl, by simp, by simp⟩
end Go.SL
/- A store that looks back, in plain Lean. -/
set_option linter.unusedSimpArgs false
set_option linter.unusedVariables false
set_option linter.unusedSectionVars false
namespace Go.SL
open Go
def leastB (ts : List TxT) (m : UInt32) : UInt32 := ts.foldl (fun m t => if t.x.at_ < m then t.x.at_ else m) m
theorem leastB_spec : ∀ (ts : List TxT) (m : UInt32), leastB ts m ≤ m ∧ (∀ t ∈ ts, leastB ts m ≤ t.x.at_) ∧ (leastB ts m = m ∨ ∃ t ∈ ts, leastB ts m = t.x.at_)
  | [], m => ⟨UInt32.le_refl _, by simp, .inl rfl⟩
  | t :: ts, m => by
    obtain ⟨h1, h2, h3⟩ := leastB_spec ts (if t.x.at_ < m then t.x.at_ else m)
    have e1 : (if t.x.at_ < m then t.x.at_ else m) ≤ m ∧ (if t.x.at_ < m then t.x.at_ else m) ≤ t.x.at_ := by
      split
      · rename_i h; exact ⟨UInt32.le_of_lt h, UInt32.le_refl _⟩
      · rename_i h; exact ⟨UInt32.le_refl _, UInt32.not_lt.1 h⟩
    refine ⟨UInt32.le_trans h1 e1.1, fun u hu => ?_, ?_⟩
    · rcases List.mem_cons.1 hu with rfl | hu
      · exact UInt32.le_trans h1 e1.2
      · exact h2 u hu
    · show leastB ts _ = m ∨ _
      rcases h3 with h3 | ⟨u, hu, h3⟩
      · by_cases h : t.x.at_ < m
        · right; exact ⟨t, by simp, by show leastB ts _ = _; rw [h3, if_pos h]⟩
        · left; rw [h3, if_neg h]
      · right; exact ⟨u, by simp [hu], h3⟩
def endsB (s : StV) (n : UInt32) : StV := { s with txs := delU s.txs n, trim := leastB (delU s.txs n) (UInt32.ofNat s.H.length) }
def doB (s : StV) (n : UInt32) (x : OpM) : DoS :=
  if opOk x then match findU s.txs n with
    | none => .err s 6
    | some t => if writes x then .put { s with txs := setU s.txs n { t.x with own := t.x.own ++ [chgOf x] } }
      else .look { s with txs := setU s.txs n { t.x with looked := t.x.looked ++ [spanOf x] } } (scanR (changeR (rowsN s.H t.x.at_.toNat) t.x.own) (spanOf x) 256)
  else .err s 1
def chkB (s : StV) (t : TX) : Bool := t.looked.any fun p => sinceH s.H t.at_.toNat p
def betaI : Kind := ⟨endsB, doB, chkB⟩
structure BetOk (s : StV) (b : Nat) : Prop where
  st : StOk s b
  trim : s.trim.toNat ≤ s.H.length
  ats : ∀ t ∈ s.txs, s.trim ≤ t.x.at_ ∧ t.x.at_.toNat ≤ s.H.length
def VB (s : StV) (o : Og) : Prop := ∀ t ∈ s.txs, t.x.own = chs (o t.id).1 ∧ (∀ x ∈ (o t.id).1, opOk x = true) ∧ (runM (rowsN s.H t.x.at_.toNat) (o t.id).1).1 = (o t.id).2 ∧ ∀ x ∈ (o t.id).1, writes x = false → spanOf x ∈ t.x.looked
theorem len32 {s : StV} {b : Nat} (h : StOk s b) : (UInt32.ofNat s.H.length).toNat = s.H.length := by
  have := h.hl; have := h.bb
  rw [UInt32.toNat_ofNat']; exact Nat.mod_eq_of_lt (by omega)
theorem ends_trim {s : StV} {b : Nat} (h : BetOk s b) (n : UInt32) : s.trim ≤ (endsB s n).trim ∧ (endsB s n).trim ≤ UInt32.ofNat s.H.length ∧ ∀ t ∈ delU s.txs n, (endsB s n).trim ≤ t.x.at_ := by
  obtain ⟨k1, k2, k3⟩ := leastB_spec (delU s.txs n) (UInt32.ofNat s.H.length)
  refine ⟨?_, k1, k2⟩
  show s.trim ≤ leastB _ _
  rcases k3 with e | ⟨t, ht, e⟩
  · rw [e, UInt32.le_iff_toNat_le, len32 h.st]; exact h.trim
  · rw [e]; exact (h.ats t (delU_sub.mem ht)).1
theorem BetOk.ends {s : StV} {b : Nat} (h : BetOk s b) (n : UInt32) : BetOk (endsB s n) b := by
  obtain ⟨h1, h2, h3⟩ := ends_trim h n
  refine ⟨h.st.sub rfl rfl rfl delU_sub, ?_, fun t ht => ⟨h3 t ht, (h.ats t (delU_sub.mem ht)).2⟩⟩
  rw [UInt32.le_iff_toNat_le, len32 h.st] at h2; exact h2
theorem BetOk.mono {s : StV} {b c : Nat} (h : BetOk s b) (hb : b ≤ c) (hc : c ≤ 1000000000) : BetOk s c := ⟨h.st.mono hb hc, h.trim, h.ats⟩
theorem BetOk.beg {s : StV} {b : Nat} (h : BetOk s b) (n : UInt32) (q : Nat) : BetOk (begS s n q) b := by
  have hs := h.st.beg n q
  refine ⟨hs, ?_, ?_⟩
  · unfold begS; split <;> exact h.trim
  · unfold begS
    split
    · intro t ht
      rcases List.mem_append.1 ht with ht | ht
      · exact h.ats t ht
      · simp at ht; subst ht
        have := len32 h.st
        exact ⟨by rw [UInt32.le_iff_toNat_le]; show _ ≤ (UInt32.ofNat s.H.length).toNat; rw [this]; exact h.trim, by show (UInt32.ofNat s.H.length).toNat ≤ s.H.length; omega⟩
    · exact h.ats
theorem BetOk.com {s : StV} {b : Nat} (h : BetOk s b) (hb : b + 1 ≤ 1000000000) (n : UInt32) : BetOk (comS betaI s n) (b + 1) := by
  have hm := h.mono (Nat.le_succ b) hb
  unfold comS
  cases hf : findU s.txs n with
  | none => exact hm
  | some t =>
    simp only
    split
    · exact hm.ends n
    · split
      · rename_i hfit
        have he := hm.ends n
        refine ⟨hm.st.add hf he.st rfl rfl rfl rfl (by have := h.st.hl; omega) hfit, ?_, fun u hu => ⟨(he.ats u hu).1, ?_⟩⟩
        · show _ ≤ (s.H ++ [_]).length
          have := he.trim; rw [List.length_append]; exact Nat.le_trans this (Nat.le_add_right _ _)
        · show _ ≤ (s.H ++ [_]).length
          have := (he.ats u hu).2; rw [List.length_append]; exact Nat.le_trans this (Nat.le_add_right _ _)
      · exact hm.ends n
theorem doB_inv {s : StV} {n : UInt32} {x : OpM} : (∃ e, doB s n x = .err s e ∧ e ≠ 0) ∨ ∃ t, findU s.txs n = some t ∧ opOk x = true ∧
    ((writes x = true ∧ doB s n x = .put { s with txs := setU s.txs n { t.x with own := t.x.own ++ [chgOf x] } }) ∨
     (writes x = false ∧ doB s n x = .look { s with txs := setU s.txs n { t.x with looked := t.x.looked ++ [spanOf x] } } (scanR (changeR (rowsN s.H t.x.at_.toNat) t.x.own) (spanOf x) 256))) := by
  unfold doB
  cases hx : opOk x with
  | false => left; exact ⟨1, by simp, by decide⟩
  | true =>
    cases hf : findU s.txs n with
    | none => left; exact ⟨6, by simp, by decide⟩
    | some t =>
      right
      refine ⟨t, rfl, rfl, ?_⟩
      cases hw : writes x <;> simp
theorem setU_ex {ts : List TxT} {n : UInt32} {x : TX} : ∀ t ∈ setU ts n x, ∃ u ∈ ts, t.id = u.id := fun t ht => by
  rcases setU_mem ht with ⟨u, hu, _, rfl⟩ | ⟨hu, _⟩
  · exact ⟨u, hu, rfl⟩
  · exact ⟨t, hu, rfl⟩
theorem BetOk.upd {s : StV} {b : Nat} (h : BetOk s b) (hb : b + 1 ≤ 1000000000) {n : UInt32} {t : TxT} (hf : findU s.txs n = some t) {x : TX} (ha : x.at_ = t.x.at_) (ho : x.own = t.x.own ∨ ∃ c, chgOk c = true ∧ x.own = t.x.own ++ [c]) (hl : x.looked.length ≤ b + 1) :
    BetOk { s with txs := setU s.txs n x } (b + 1) := by
  obtain ⟨hid, _⟩ := findU_mid hf
  have hm := findU_mem hf
  refine ⟨h.st.upd hb hm rfl rfl rfl (by rw [hid]) ho hl, h.trim, fun u hu => ?_⟩
  rcases setU_mem hu with ⟨v, hv, hvi, rfl⟩ | ⟨hu, _⟩
  · have := h.ats t hm; rw [← ha] at this; exact this
  · exact h.ats u hu
theorem uniqU {ts : List TxT} (hn : (ts.map (·.id)).Nodup) {n : UInt32} {t u : TxT} (hf : findU ts n = some t) (hu : u ∈ ts) (hi : u.id = n) : u = t := by
  have h1 := findU_of hn hu
  rw [hi, hf] at h1; exact (Option.some.inj h1).symm
theorem rows_since {H : List (List ChgM)} {a : Nat} {p : SpanM} (h : sinceH H a p = false) (r : RowM) (hr : inSpan p r.key = true) : r ∈ rowsN H a ↔ r ∈ rowsN H H.length := by
  have e : rowsN H H.length = changeR (rowsN H a) (H.drop a).flatten := by
    rw [rowsN_all]; unfold rowsN
    rw [← changeR_app, ← List.flatten_append, List.take_append_drop]
  rw [e]
  refine (mem_change_skip _ (rowsN_rising H a) fun c hc e => ?_).symm
  obtain ⟨cs, h1, h2⟩ := List.mem_flatten.1 hc
  unfold sinceH at h
  have h3 := List.any_eq_false.1 h cs h1
  rw [List.any_eq_true] at h3
  exact h3 ⟨c, h2, by rw [e]; exact hr⟩
def betaG : Good betaI where
  Ok := BetOk
  V := VB
  ok := fun h => h.st
  mono := fun h hb hc => h.mono hb hc
  beg := fun h n q => h.beg n q
  endsE := fun _ _ => ⟨rfl, rfl, rfl, rfl⟩
  ends := fun h n => h.ends n
  com := fun h hb n => h.com hb n
  err := fun {s b n x s' e} h he => by
    have he : doB s n x = .err s' e := he
    rcases doB_inv (s := s) (n := n) (x := x) with ⟨e', h1, h2⟩ | ⟨t, _, _, ⟨_, h1⟩ | ⟨_, h1⟩⟩ <;> rw [h1] at he
    · cases he; exact ⟨h2, rfl, rfl, rfl, fun t ht => ⟨t, ht, rfl⟩, h, fun _ h => h⟩
    · cases he
    · cases he
  put := fun {s b n x s'} h hb he => by
    have he : doB s n x = .put s' := he
    rcases doB_inv (s := s) (n := n) (x := x) with ⟨e', h1, h2⟩ | ⟨t, hf, hx, ⟨hw, h1⟩ | ⟨_, h1⟩⟩ <;> rw [h1] at he
    · cases he
    · cases he
      obtain ⟨hid, _⟩ := findU_mid hf
      refine ⟨t, findU_mem hf, hid, hx, hw, rfl, rfl, rfl, setU_ex, h.upd hb hf rfl (.inr ⟨_, chgOf_ok hx hw, rfl⟩) (Nat.le_succ_of_le (h.st.lks t (findU_mem hf))), fun o hv u hu => ?_⟩
      rcases setU_mem hu with ⟨v, hv', hvi, rfl⟩ | ⟨hu, hne⟩
      · obtain rfl := uniqU h.st.ids hf hv' hvi
        obtain ⟨k1, k2, k3, k4⟩ := hv v hv'
        simp only
        rw [hvi] at k1 k2 k3 k4 ⊢
        rw [setO_same]
        refine ⟨by rw [chs_snoc_w _ hw, k1], fun y hy => ?_, ?_, fun y hy hwy => ?_⟩
        · rcases List.mem_append.1 hy with hy | hy
          · exact k2 y hy
          · simp at hy; subst hy; exact hx
        · rw [runM_snoc, done_write hx hw]; simp only; rw [k3]
        · rcases List.mem_append.1 hy with hy | hy
          · exact k4 y hy hwy
          · simp at hy; subst hy; rw [hw] at hwy; cases hwy
      · rw [setO_other _ _ hne]; exact hv u hu
    · cases he
  look := fun {s b n x s' rows} h hb he => by
    have he : doB s n x = .look s' rows := he
    rcases doB_inv (s := s) (n := n) (x := x) with ⟨e', h1, h2⟩ | ⟨t, hf, hx, ⟨hw, h1⟩ | ⟨hw, h1⟩⟩ <;> rw [h1] at he
    · cases he
    · cases he
    · cases he
      obtain ⟨hid, _⟩ := findU_mid hf
      refine ⟨t, findU_mem hf, hid, hx, hw, rfl, rfl, rfl, setU_ex, h.upd hb hf rfl (.inl rfl) (by have := h.st.lks t (findU_mem hf); simp; omega), by unfold scanR; simp; omega, fun o hv u hu => ?_⟩
      rcases setU_mem hu with ⟨v, hv', hvi, rfl⟩ | ⟨hu, hne⟩
      · obtain rfl := uniqU h.st.ids hf hv' hvi
        obtain ⟨k1, k2, k3, k4⟩ := hv v hv'
        simp only
        rw [hvi] at k1 k2 k3 k4 ⊢
        rw [setO_same]
        refine ⟨by rw [chs_snoc_r _ hw, k1], fun y hy => ?_, ?_, fun y hy hwy => ?_⟩
        · rcases List.mem_append.1 hy with hy | hy
          · exact k2 y hy
          · simp at hy; subst hy; exact hx
        · rw [runM_snoc, run_left (rowsN_rising _ _) _ k2, done_read (changeR_rising _ (rowsN_rising _ _)).1 hx hw]; simp only; rw [k3, k1]
        · rcases List.mem_append.1 hy with hy | hy
          · exact List.mem_append_left _ (k4 y hy hwy)
          · simp at hy; subst hy; simp
      · rw [setO_other _ _ hne]; exact hv u hu
  vbeg := fun {s b o} h hv n q hE => by
    have hf := (begE_zero hE).2
    intro t ht
    rw [begS, if_pos hE] at ht ⊢
    rcases List.mem_append.1 ht with ht | ht
    · rw [setO_other _ _ (fun e => findU_none hf (List.mem_map.2 ⟨t, ht, e⟩))]; exact hv t ht
    · simp at ht; subst ht
      show [] = chs (setO o n ([], []) n).1 ∧ (∀ x ∈ (setO o n ([], []) n).1, _) ∧ (runM _ (setO o n ([], []) n).1).1 = (setO o n ([], []) n).2 ∧ ∀ x ∈ (setO o n ([], []) n).1, _
      rw [setO_same]; simp [chs, runM_nil]
  vends := fun h hv n t ht => hv t (delU_sub.mem ht)
  vcongr := fun hv ho t ht => by rw [← ho t ht]; exact hv t ht
  vown := fun hv t ht => ⟨(hv t ht).1, (hv t ht).2.1⟩
  vcom := fun {s b o n t} h hv hf hc hfit => by
    obtain ⟨hid, _⟩ := findU_mid hf
    obtain ⟨k1, k2, k3, k4⟩ := hv t (findU_mem hf)
    rw [hid] at k1 k2 k3 k4
    refine ⟨?_, fun u hu => ?_⟩
    · rw [← k3]
      refine run_agree s.rising (rowsN_rising _ _) _ k2 fun x hx hw r hr => ?_
      have : sinceH s.H t.x.at_.toNat (spanOf x) = false := by
        have hc : chkB s t.x = false := hc
        unfold chkB at hc
        have := List.any_eq_false.1 hc _ (k4 x hx hw)
        simpa using this
      exact (rows_since this r hr).symm
    · have hu' : u ∈ s.txs := delU_sub.mem hu
      obtain ⟨j1, j2, j3, j4⟩ := hv u hu'
      refine ⟨j1, j2, ?_, j4⟩
      show (runM (rowsN (s.H ++ [t.x.own]) _) _).1 = _
      rw [rowsN_old (h.ats u hu').2]; exact j3
end Go.SL
/- The library's sort by a function, as a contract over pieces. -/
set_option linter.unusedSimpArgs false
set_option linter.unusedVariables false
set_option linter.unusedSectionVars false
namespace Go.SL
open Go Go.Proofs Go.Sort Go.Shelf
end Go.SL
/- A store that looks back, in plain Lean: what a transaction sees, out of the order of a map. -/
set_option linter.unusedSimpArgs false
set_option linter.unusedVariables false
set_option linter.unusedSectionVars false
namespace Go.SL
open Go Go.Proofs Go.Sort
/-! what a key has last -/
/-! the comparisons -/
instance : Inhabited RowM := ⟨⟨.empty, 0⟩⟩
end Go.SL
/- A map of pointers read, all keys scanned. -/
set_option linter.unusedSimpArgs false
set_option linter.unusedVariables false
set_option linter.unusedSectionVars false
namespace Go.SL
open Go Go.Proofs
theorem stars_sublist {L M : List HP} (h : M.Sublist L) : ∀ {S : Piece}, stars L S → stars M S := by
  induction h with
  | slnil => exact fun h => h
  | cons _ _ ih => exact fun h => ih (stars_tail h)
  | cons_cons _ _ ih => exact fun h => stars_cons (fun _ h => ih h) h
section
variable {κ σ : Type} [DecidableEq κ] {TP : TxU κ σ → List HP}
theorem stars_h1U {ts : List (TxU κ σ)} {S : Piece} (h : stars [TxsU TP ts] S) : TxsU TP ts S := by
  have := stars_bun (L := ts.map fun t => bun (TP t)) (M := []) h
  rw [List.append_nil] at this; exact this
theorem TxsU_sub {ts us : List (TxU κ σ)} (h : us.Sublist ts) {S : Piece} (hS : TxsU TP ts S) : TxsU TP us S := stars_sublist (h.map _) hS
theorem TxsU_del {ts : List (TxU κ σ)} {n : κ} {S : Piece} (hS : TxsU TP ts S) : TxsU TP (delU ts n) S := TxsU_sub delU_sub hS
end
section
variable {P : Program} {g : World} {Γ : Env} {L M : List HP} {dst : Option Tmp} {t : TypeId} {pos : String} {aft : Array Edge} {gd : Option (Nat × Bool)}
theorem e_lookU {σ : Type} {x i : Operand} {T e kt : TypeId} {d : TypeDesc} {n : UInt32} {ts : List (TxU UInt32 σ)} {m : Value} (ht : P.underlying T = some (.map kt e)) (hk : KeyOk P kt d eU32) (hz : (P.info? e).bind (·.zero) = some (.pointer none)) (hx : ev Γ x = some m := by rfl) (hi : ev Γ i = some (.int .u32 n.toNat) := by rfl) (hp : Pick L (Mp eU32 m (List.map kvU ts)) M := by repeat first | exact .z | apply Pick.s) :
    EO P g ⟨dst, .lookup T x i false, t, pos, aft, gd⟩ Γ L (.pointer ((findU ts n).map fun t => ⟨t.q, 0, none⟩)) := by
  have h := e_lookup (g := g) (L := L) (dst := dst) (t := t) (pos := pos) (aft := aft) (gd := gd) (x := x) (i := i) (k := n) ht hk hz hx hi hp
  rw [mget_kvU] at h
  cases hf : findU ts n with
  | none => rw [hf] at h; exact h
  | some t => rw [hf] at h; exact h
end
end Go.SL
/- A store of transactions, in plain Lean: a few, one behind the other. -/
set_option linter.unusedSimpArgs false
set_option linter.unusedVariables false
set_option linter.unusedSectionVars false
namespace Go.SL
open Go
/-- What is known of a store that has done a few things. -/
structure AtS {I : Kind} (G : Good I) (s : StV) (ts : List TxT) (H : List (List ChgM)) (b : Nat) : Prop where
  ok : G.Ok s b
  txs : s.txs = ts
  his : s.H = H
  at_ : s.at_ ≤ 82 * H.length
section
variable {I : Kind} {G : Good I} {s : StV} {ts : List TxT} {H : List (List ChgM)} {b : Nat}
theorem AtS.first (h : G.Ok stF 0) : AtS G stF [] [] 0 := ⟨h, rfl, rfl, Nat.zero_le _⟩
theorem AtS.beg (h : AtS G s ts H b) (n : UInt32) (q : Nat) (h0 : n ≠ 0) (hf : findU ts n = none) (hl : ts.length < 32) :
    begE s n = 0 ∧ AtS G (begS s n q) (ts ++ [⟨n, q, ⟨UInt32.ofNat H.length, [], [], []⟩⟩]) H b := by
  have hE : begE s n = 0 := by
    unfold begE
    rw [if_neg h0, h.txs, hf]
    simp; omega
  refine ⟨hE, G.beg h.ok n q, ?_, ?_, ?_⟩ <;> rw [begS, if_pos hE]
  · show s.txs ++ [begT s n q] = _
    rw [h.txs, begT, h.his]
  · exact h.his
  · exact h.at_
theorem AtS.com (h : AtS G s ts H b) {n : UInt32} {t : TxT} (hf : findU ts n = some t) (hc : I.chk s t.x = false) (hl : t.x.own.length ≤ 80) (hH : H.length ≤ 40) (hb : b ≤ 1000) :
    comE I s n = 0 ∧ comN I s n = UInt32.ofNat H.length + 1 ∧ AtS G (comS I s n) (delU ts n) (H ++ [t.x.own]) (b + 1) := by
  have hok := G.ok h.ok
  have hf' : findU s.txs n = some t := by rw [h.txs]; exact hf
  have hcl := (chgs_len t.x.own).2 (hok.own t (findU_mem hf'))
  have hlen := chgsB_len t.x.own
  have hat := h.at_
  have hfit : fitsS s t.x := ⟨by omega, by rw [hok.log.len]; unfold secs; omega⟩
  have hE : comE I s n = 0 := by simp [comE, hf', hc, hfit]
  have hS2 : comS I s n = addS (I.ends s n) t.x.own := by simp [comS, hf', hc, hfit]
  obtain ⟨e1, e2, e3, e4⟩ := G.endsE h.ok n
  refine ⟨hE, by rw [comN, if_pos hE, h.his], G.com h.ok (by omega) n, ?_, ?_, ?_⟩
  · rw [hS2]; show (I.ends s n).txs = _; rw [e4, h.txs]
  · rw [hS2]; show (I.ends s n).H ++ _ = _; rw [e3, h.his]
  · rw [hS2]; show (I.ends s n).at_ + _ ≤ _; rw [e2, List.length_append, List.length_singleton]; unfold secs; omega
theorem AtS.rows (h : AtS G s ts H b) : s.rows = rowsN H H.length := by unfold StV.rows; rw [h.his]
theorem AtS.abo (h : AtS G s ts H b) {n : UInt32} {t : TxT} (hf : findU ts n = some t) : aboE s n = 0 ∧ AtS G (aboS I s n) (delU ts n) H b := by
  have hf' : findU s.txs n = some t := by rw [h.txs]; exact hf
  obtain ⟨e1, e2, e3, e4⟩ := G.endsE h.ok n
  have hS : aboS I s n = I.ends s n := by simp [aboS, hf']
  refine ⟨by simp [aboE, hf'], ?_⟩
  rw [hS]
  exact ⟨G.ends h.ok n, by rw [e4, h.txs], by rw [e3, h.his], by rw [e2]; exact h.at_⟩
theorem AtS.abo0 (h : AtS G s ts H b) {n : UInt32} (hf : findU ts n = none) : aboE s n = 6 ∧ aboS I s n = s := by
  have hf' : findU s.txs n = none := by rw [h.txs]; exact hf
  exact ⟨by simp [aboE, hf'], by simp [aboS, hf']⟩
end
theorem beg_zero (s : StV) (q : Nat) : begE s 0 = 1 ∧ begS s 0 q = s := by
  have h : begE s 0 = 1 := by simp [begE]
  exact ⟨h, by rw [begS, h]; rfl⟩
/-! the store that looks back -/
section
variable {s : StV} {ts : List TxT} {H : List (List ChgM)} {b : Nat}
theorem AtS.put (h : AtS betaG s ts H b) {n : UInt32} {t : TxT} (hf : findU ts n = some t) {k : ByteArray} (hk : keyOk k = true) (v : UInt32) (hb : b ≤ 1000) :
    ∃ s', doB s n (opPut k v) = .put s' ∧ AtS betaG s' (setU ts n { t.x with own := t.x.own ++ [⟨k, v, false⟩] }) H (b + 1) := by
  have hf' : findU s.txs n = some t := by rw [h.txs]; exact hf
  have e : doB s n (opPut k v) = .put { s with txs := setU s.txs n { t.x with own := t.x.own ++ [chgOf (opPut k v)] } } := by simp [doB, put_ok, hk, hf', w_put]
  refine ⟨_, e, ?_, ?_, h.his, h.at_⟩
  · obtain ⟨_, _, _, _, _, _, _, _, _, hok, _⟩ := betaG.put h.ok (by omega) e
    exact hok
  · show setU s.txs n _ = _
    rw [h.txs]; rfl
theorem AtS.get (h : AtS betaG s ts H b) {n : UInt32} {t : TxT} (hf : findU ts n = some t) {k : ByteArray} (hk : keyOk k = true) (hb : b ≤ 1000) :
    ∃ s', doB s n (opGet k) = .look s' (scanR (changeR (rowsN H t.x.at_.toNat) t.x.own) (one k) 256) ∧ AtS betaG s' (setU ts n { t.x with looked := t.x.looked ++ [one k] }) H (b + 1) := by
  have hf' : findU s.txs n = some t := by rw [h.txs]; exact hf
  have e : doB s n (opGet k) = .look { s with txs := setU s.txs n { t.x with looked := t.x.looked ++ [one k] } } (scanR (changeR (rowsN s.H t.x.at_.toNat) t.x.own) (one k) 256) := by simp [doB, get_ok, hk, hf', w_get, span_get]
  refine ⟨{ s with txs := setU s.txs n { t.x with looked := t.x.looked ++ [one k] } }, e.trans (by rw [show rowsN s.H t.x.at_.toNat = rowsN H t.x.at_.toNat by rw [h.his]]), ?_, ?_, h.his, h.at_⟩
  · obtain ⟨_, _, _, _, _, _, _, _, _, hok, _⟩ := betaG.look h.ok (by omega) e
    exact hok
  · show setU s.txs n _ = _
    rw [h.txs]
theorem AtS.chk (h : AtS betaG s ts H b) (x : TX) : betaI.chk s x = x.looked.any fun p => sinceH H x.at_.toNat p := by
  show chkB s x = _
  unfold chkB; rw [h.his]
theorem AtS.step (h : AtS betaG s ts H b) {n : UInt32} {t : TxT} (hf : findU ts n = some t) (hb : b ≤ 1000) (x : OpM) :
    (opOk x = false ∧ doB s n x = .err s 1) ∨ (opOk x = true ∧ writes x = true ∧ ∃ s', doB s n x = .put s' ∧ AtS betaG s' (setU ts n { t.x with own := t.x.own ++ [chgOf x] }) H (b + 1)) ∨
    (opOk x = true ∧ writes x = false ∧ ∃ s', doB s n x = .look s' (scanR (changeR (rowsN H t.x.at_.toNat) t.x.own) (spanOf x) 256) ∧ AtS betaG s' (setU ts n { t.x with looked := t.x.looked ++ [spanOf x] }) H (b + 1)) := by
  have hf' : findU s.txs n = some t := by rw [h.txs]; exact hf
  cases hx : opOk x with
  | false => exact .inl ⟨rfl, by unfold doB; rw [hx]; rfl⟩
  | true =>
    right
    cases hw : writes x with
    | true =>
      have e : doB s n x = .put { s with txs := setU s.txs n { t.x with own := t.x.own ++ [chgOf x] } } := by simp [doB, hx, hf', hw]
      refine .inl ⟨rfl, rfl, _, e, ?_, ?_, h.his, h.at_⟩
      · obtain ⟨_, _, _, _, _, _, _, _, _, hok, _⟩ := betaG.put h.ok (by omega) e
        exact hok
      · show setU s.txs n _ = _
        rw [h.txs]
    | false =>
      have e : doB s n x = .look { s with txs := setU s.txs n { t.x with looked := t.x.looked ++ [spanOf x] } } (scanR (changeR (rowsN s.H t.x.at_.toNat) t.x.own) (spanOf x) 256) := by simp [doB, hx, hf', hw]
      refine .inr ⟨rfl, rfl, { s with txs := setU s.txs n { t.x with looked := t.x.looked ++ [spanOf x] } }, e.trans (by rw [show rowsN s.H t.x.at_.toNat = rowsN H t.x.at_.toNat by rw [h.his]]), ?_, ?_, h.his, h.at_⟩
      · obtain ⟨_, _, _, _, _, _, _, _, _, hok, _⟩ := betaG.look h.ok (by omega) e
        exact hok
      · show setU s.txs n _ = _
        rw [h.txs]
theorem AtS.own_le (h : AtS betaG s ts H b) {t : TxT} (ht : t ∈ ts) : t.x.own.length ≤ b := by
  have := (betaG.ok h.ok).own_le (t := t) (by rw [h.txs]; exact ht); omega
/-- What is asked for again, after others. -/
abbrev tS (n : UInt32) (q : Nat) (a : UInt32) (L : List SpanM) (O : List ChgM) : TxT := ⟨n, q, ⟨a, L, O, []⟩⟩
end
end Go.SL
/- A store that locks, in plain Lean. -/
set_option linter.unusedSimpArgs false
set_option linter.unusedVariables false
set_option linter.unusedSectionVars false
namespace Go.SL
open Go
abbrev LkT := List (UInt32 × List LockM)
def eqS (a b : SpanM) : Bool := sEq a.a b.a && sEq a.b b.b
theorem eqS_iff {a b : SpanM} : eqS a b = true ↔ a = b := by
  unfold eqS
  rw [Bool.and_eq_true, sEq_iff, sEq_iff]
  cases a; cases b; simp
/-! who is in the way -/
def inWay (n : UInt32) (p : SpanM) (w : Bool) (e : UInt32 × List LockM) : Bool := decide (e.1 ≠ n) && e.2.any fun l => (w || l.alone) && meet l.s p
def wayL (L : LkT) (n : UInt32) (p : SpanM) (w : Bool) : List UInt32 := ((L.filter (inWay n p w)).map (·.1)).mergeSort (fun a b => decide (a ≤ b))
theorem mem_way {L : LkT} {n k : UInt32} {p : SpanM} {w : Bool} : k ∈ wayL L n p w ↔ k ≠ n ∧ ∃ ls, (k, ls) ∈ L ∧ ∃ l ∈ ls, (w || l.alone) = true ∧ meet l.s p = true := by
  unfold wayL
  rw [List.mem_mergeSort, List.mem_map]
  constructor
  · rintro ⟨⟨k', ls⟩, h, rfl⟩
    obtain ⟨h1, h2⟩ := List.mem_filter.1 h
    simp only [inWay, Bool.and_eq_true, decide_eq_true_eq, List.any_eq_true] at h2
    obtain ⟨h3, l, h4, h5, h6⟩ := h2
    exact ⟨h3, ls, h1, l, h4, h5, h6⟩
  · rintro ⟨h1, ls, h2, l, h3, h4, h5⟩
    refine ⟨(k, ls), List.mem_filter.2 ⟨h2, ?_⟩, rfl⟩
    simp only [inWay, Bool.and_eq_true, decide_eq_true_eq, List.any_eq_true]
    exact ⟨h1, l, h3, h4, h5⟩
theorem way_len (L : LkT) (n : UInt32) (p : SpanM) (w : Bool) : (wayL L n p w).length ≤ L.length := by
  unfold wayL
  rw [List.length_mergeSort, List.length_map]; exact List.length_filter_le _ _
theorem way_no {L : LkT} (hn : (L.map (·.1)).Nodup) {n : UInt32} {p : SpanM} {w : Bool} (h : wayL L n p w = []) {k : UInt32} (hk : k ≠ n) {ls : List LockM} (hl : getS L k = some ls) {l : LockM} (hm : l ∈ ls) (ha : (w || l.alone) = true) : meet l.s p = false := by
  cases e : meet l.s p with
  | false => rfl
  | true =>
    have : k ∈ wayL L n p w := mem_way.2 ⟨hk, ls, getS_some hl, l, hm, ha, e⟩
    rw [h] at this; cases this
/-! a lock more -/
def askL (ls : List LockM) (p : SpanM) (w : Bool) : List LockM := match ls.findIdx? (fun l => eqS l.s p) with
  | none => ls ++ [⟨p, w⟩]
  | some i => ls.set i ⟨p, (match ls[i]? with | some l => l.alone | none => false) || w⟩
theorem askL_idx {ls : List LockM} {p : SpanM} {i : Nat} (h : ls.findIdx? (fun l => eqS l.s p) = some i) : ∃ l, ls[i]? = some l ∧ l.s = p := by
  obtain ⟨h1, h2, _⟩ := List.findIdx?_eq_some_iff_getElem.1 h
  exact ⟨ls[i], List.getElem?_eq_getElem h1, eqS_iff.1 h2⟩
theorem askL_len (ls : List LockM) (p : SpanM) (w : Bool) : (askL ls p w).length ≤ ls.length + 1 := by
  unfold askL; split <;> simp
theorem askL_new (ls : List LockM) (p : SpanM) (w : Bool) : ∃ l ∈ askL ls p w, l.s = p ∧ (w = true → l.alone = true) := by
  unfold askL
  split
  · exact ⟨⟨p, w⟩, by simp, rfl, fun h => h⟩
  · rename_i i hi
    obtain ⟨l, hl, _⟩ := askL_idx hi
    refine ⟨⟨p, _⟩, List.mem_iff_getElem?.2 ⟨i, by rw [List.getElem?_set_self (idx_lt hl)]⟩, rfl, fun h => by simp [h]⟩
theorem askL_old {ls : List LockM} {p : SpanM} {w : Bool} {l : LockM} (h : l ∈ ls) : ∃ m ∈ askL ls p w, m.s = l.s ∧ (l.alone = true → m.alone = true) := by
  unfold askL
  split
  · exact ⟨l, by simp [h], rfl, fun h => h⟩
  · rename_i i hi
    obtain ⟨k, hk, hks⟩ := askL_idx hi
    obtain ⟨j, hj⟩ := List.mem_iff_getElem?.1 h
    by_cases e : i = j
    · subst e
      rw [hk] at hj; cases hj
      exact ⟨⟨p, _⟩, List.mem_iff_getElem?.2 ⟨i, by rw [List.getElem?_set_self (idx_lt hk)]⟩, hks.symm, fun h => by rw [hk]; simp [h]⟩
    · exact ⟨l, List.mem_iff_getElem?.2 ⟨j, by rw [List.getElem?_set_ne e]; exact hj⟩, rfl, fun h => h⟩
theorem askL_mem {ls : List LockM} {p : SpanM} {w : Bool} {m : LockM} (h : m ∈ askL ls p w) : m ∈ ls ∨ (m.s = p ∧ (m.alone = true → w = true ∨ ∃ l ∈ ls, l.s = p ∧ l.alone = true)) := by
  unfold askL at h
  split at h
  · rcases List.mem_append.1 h with h | h
    · exact .inl h
    · simp at h; subst h; exact .inr ⟨rfl, fun h => .inl h⟩
  · rename_i i hi
    obtain ⟨k, hk, hks⟩ := askL_idx hi
    rcases List.mem_or_eq_of_mem_set h with h | h
    · exact .inl h
    · subst h
      refine .inr ⟨rfl, fun h => ?_⟩
      rw [hk] at h
      simp only [Bool.or_eq_true] at h
      rcases h with h | h
      · exact .inr ⟨k, List.mem_of_getElem? hk, hks, h⟩
      · exact .inl h
def lockS (L : LkT) (n : UInt32) (p : SpanM) (w : Bool) : LkT := setS L n (askL ((getS L n).getD []) p w)
def freeL (L : LkT) (n : UInt32) : LkT := L.eraseP fun e => decide (e.1 = n)
theorem freeL_get {L : LkT} (hn : (L.map (·.1)).Nodup) (n j : UInt32) : getS (freeL L n) j = if j = n then none else getS L j := by
  unfold getS freeL
  induction L with
  | nil => simp
  | cons x L ih =>
    rw [List.map_cons] at hn
    obtain ⟨h1, h2⟩ := List.nodup_cons.1 hn
    rw [List.eraseP_cons]
    by_cases e : x.1 = n
    · simp only [e, decide_true, cond_true]
      by_cases e2 : j = n
      · subst e2
        rw [if_pos rfl, List.find?_eq_none.2 (fun y hy => ?_)]; · rfl
        simp only [decide_eq_true_eq]
        intro e3
        exact h1 (by rw [e, ← e3]; exact List.mem_map.2 ⟨y, hy, rfl⟩)
      · rw [if_neg e2, List.find?_cons]
        have : ¬ n = j := fun e3 => e2 e3.symm
        simp [e, this]
    · simp only [e, decide_false, cond_false]
      rw [List.find?_cons, List.find?_cons]
      by_cases e3 : x.1 = j
      · have : ¬ j = n := fun e4 => e (e3.trans e4)
        simp [e3, this]
      · simp only [e3, decide_false]
        exact ih h2
def totL (L : LkT) : Nat := (L.map fun e => e.2.length + 1).sum
theorem totL_len (L : LkT) : L.length ≤ totL L := by
  unfold totL
  induction L with
  | nil => simp
  | cons x L ih => simp; omega
theorem totL_mem {L : LkT} {e : UInt32 × List LockM} (h : e ∈ L) : e.2.length ≤ totL L := by
  obtain ⟨A, B, rfl⟩ := List.append_of_mem h
  simp [totL]; omega
theorem totL_free (L : LkT) (n : UInt32) : totL (freeL L n) ≤ totL L := by
  unfold totL freeL
  induction L with
  | nil => simp
  | cons x L ih =>
    rw [List.eraseP_cons]
    cases decide (x.1 = n)
    · simp only [cond_false, List.map_cons, List.sum_cons]; omega
    · simp
theorem totL_set (L : LkT) (n : UInt32) (ws : List LockM) (h : ws.length ≤ ((getS L n).getD []).length + 1) : totL (setS L n ws) ≤ totL L + 2 := by
  unfold setS
  split
  · rename_i i hi
    obtain ⟨h1, h2, _⟩ := List.findIdx?_eq_some_iff_getElem.1 hi
    have hg : getS L n = some L[i].2 := by
      have := hi
      unfold getS
      rw [List.findIdx?_eq_some_iff_getElem] at hi
      obtain ⟨_, _, h3⟩ := hi
      rw [(List.find?_eq_some_iff_getElem (p := fun p : UInt32 × List LockM => decide (p.1 = n)) (b := L[i])).2 ⟨h2, i, h1, rfl, fun j hj => by simpa using h3 j hj⟩]; rfl
    rw [hg, Option.getD_some] at h
    have e : L = L.take i ++ L[i] :: L.drop (i + 1) := by rw [List.getElem_cons_drop, List.take_append_drop]
    have e2 : L.set i (n, ws) = L.take i ++ (n, ws) :: L.drop (i + 1) := by rw [List.set_eq_take_append_cons_drop, if_pos h1]
    unfold totL
    rw [e2]
    conv => rhs; rw [e]
    simp only [List.map_append, List.map_cons, List.sum_append, List.sum_cons]
    omega
  · rename_i hi
    have hg : getS L n = none := by
      unfold getS
      rw [List.find?_eq_none.2 (fun y hy => by simpa using List.findIdx?_eq_none_iff.1 hi y hy)]; rfl
    rw [hg] at h
    simp at h
    simp [totL]; omega
/-! rings -/
inductive Reach (R : UInt32 → UInt32 → Prop) (a : UInt32) : UInt32 → Prop
  | refl : Reach R a a
  | tail {b c : UInt32} : Reach R a b → R b c → Reach R a c
def edgesA (ts : List TxT) (n : UInt32) : List (UInt32 × UInt32) := ts.flatMap fun t => if t.id = n then [] else (t.x.waits.filter fun w => (findU ts w).isSome).map fun w => (t.id, w)
open Classical in
noncomputable def ringB (ts : List TxT) (n : UInt32) (way : List UInt32) : Bool := decide (∃ w ∈ way, Reach (fun a b => (a, b) ∈ edgesA ts n) w n)
/-! what the store does -/
def endsA (s : StV) (n : UInt32) : StV := { s with txs := delU s.txs n, locks := freeL s.locks n }
noncomputable def doA (s : StV) (n : UInt32) (x : OpM) : DoS :=
  if opOk x then match findU s.txs n with
    | none => .err s 6
    | some t =>
      if meet (spanOf x) (spanOf x) && decide (0 < (wayL s.locks n (spanOf x) (writes x)).length) then
        if ringB (setU s.txs n { t.x with waits := [] }) n (wayL s.locks n (spanOf x) (writes x)) then .err (endsA { s with txs := setU s.txs n { t.x with waits := [] } } n) 9
        else .err { s with txs := setU s.txs n { t.x with waits := wayL s.locks n (spanOf x) (writes x) } } 8
      else if writes x then .put { s with locks := if meet (spanOf x) (spanOf x) then lockS s.locks n (spanOf x) (writes x) else s.locks, txs := setU s.txs n { t.x with own := t.x.own ++ [chgOf x], waits := [] } }
        else .look { s with locks := if meet (spanOf x) (spanOf x) then lockS s.locks n (spanOf x) (writes x) else s.locks, txs := setU s.txs n { t.x with waits := [] } } (scanR (changeR s.rows t.x.own) (spanOf x) 256)
  else .err s 1
noncomputable def alphaI : Kind := ⟨endsA, doA, fun _ _ => false⟩
end Go.SL
/- A store that locks, in plain Lean: what it was told stays true. -/
set_option linter.unusedSimpArgs false
set_option linter.unusedVariables false
set_option linter.unusedSectionVars false
namespace Go.SL
open Go
theorem setU_ids' {ts : List TxT} {n : UInt32} {x : TX} : ∀ t ∈ setU ts n x, ∃ u ∈ ts, t.id = u.id := setU_ex
/-- What a transaction waits for, and who has locks, is no matter of what all stores keep. -/
theorem StOk.waits {s s' : StV} {b : Nat} (h : StOk s b) {n : UInt32} {t : TxT} (hf : findU s.txs n = some t) (ws : List UInt32) (hd : s'.d = s.d) (ha : s'.at_ = s.at_) (hH : s'.H = s.H) (ht : s'.txs = setU s.txs n { t.x with waits := ws }) : StOk s' b := by
  obtain ⟨hid, A, B, hts, hdel, hA⟩ := findU_mid hf
  have e : s'.txs = A ++ { t with x := { t.x with waits := ws } } :: B := by rw [ht, ← hid, hts]; exact setU_mid (hts ▸ h.ids) _
  refine ⟨by rw [hd, ha, hH]; exact h.log, by rw [hH]; exact h.recs, ?_, by rw [hH]; exact h.hl, by rw [ht, setU_ids]; exact h.ids, ?_, ?_, by rw [ht]; simp only [setU, List.length_map]; exact h.tl, h.bb⟩
  · rw [hH, e]; have := h.sum; rw [hts] at this; simpa using this
  · rw [e]; intro y hy
    rcases List.mem_append.1 hy with hy | hy
    · exact h.own y (by rw [hts]; simp [hy])
    · rcases List.mem_cons.1 hy with rfl | hy
      · exact h.own t (findU_mem hf)
      · exact h.own y (by rw [hts]; simp [hy])
  · rw [e]; intro y hy
    rcases List.mem_append.1 hy with hy | hy
    · exact h.lks y (by rw [hts]; simp [hy])
    · rcases List.mem_cons.1 hy with rfl | hy
      · exact h.lks t (findU_mem hf)
      · exact h.lks y (by rw [hts]; simp [hy])
structure AlphaOk (s : StV) (b : Nat) : Prop where
  st : StOk s b
  keys : (s.locks.map (·.1)).Nodup
  compat : ∀ a c la lc, getS s.locks a = some la → getS s.locks c = some lc → a ≠ c → ∀ l ∈ la, ∀ m ∈ lc, (l.alone || m.alone) = true → meet l.s m.s = false
  opn : ∀ e ∈ s.locks, ∃ t ∈ s.txs, t.id = e.1
  tot : totL s.locks ≤ 2 * b
  waits : ∀ t ∈ s.txs, t.x.waits.length ≤ 2 * b
  nz : ∀ t ∈ s.txs, t.id ≠ 0
def VA (s : StV) (o : Og) : Prop := ∀ t ∈ s.txs, t.x.own = chs (o t.id).1 ∧ (∀ x ∈ (o t.id).1, opOk x = true) ∧ (runM s.rows (o t.id).1).1 = (o t.id).2 ∧
  ∀ x ∈ (o t.id).1, meet (spanOf x) (spanOf x) = true → ∃ ls, getS s.locks t.id = some ls ∧ ∃ l ∈ ls, l.s = spanOf x ∧ (writes x = true → l.alone = true)
def lkS (s : StV) (n : UInt32) (p : SpanM) (w : Bool) : LkT := if meet p p then lockS s.locks n p w else s.locks
theorem lkS_facts {s : StV} {b : Nat} (h : AlphaOk s b) {n : UInt32} {t : TxT} (hf : findU s.txs n = some t) {p : SpanM} {w : Bool} (hno : meet p p = true → wayL s.locks n p w = []) :
    ((lkS s n p w).map (·.1)).Nodup ∧
    (∀ a c la lc, getS (lkS s n p w) a = some la → getS (lkS s n p w) c = some lc → a ≠ c → ∀ l ∈ la, ∀ m ∈ lc, (l.alone || m.alone) = true → meet l.s m.s = false) ∧
    (∀ e ∈ lkS s n p w, ∃ t ∈ s.txs, t.id = e.1) ∧ totL (lkS s n p w) ≤ 2 * (b + 1) ∧
    (meet p p = true → ∃ ls, getS (lkS s n p w) n = some ls ∧ ∃ l ∈ ls, l.s = p ∧ (w = true → l.alone = true)) ∧
    (∀ k ls, getS s.locks k = some ls → ∃ ls', getS (lkS s n p w) k = some ls' ∧ ∀ l ∈ ls, ∃ m ∈ ls', m.s = l.s ∧ (l.alone = true → m.alone = true)) := by
  unfold lkS
  have ht := h.tot
  split
  · rename_i hm
    have hno := hno hm
    have hget : ∀ j, getS (lockS s.locks n p w) j = if j = n then some (askL ((getS s.locks n).getD []) p w) else getS s.locks j := fun j => setS_get _ _ _ j
    -- a new lock of n against another's
    have hnew : ∀ c lc, getS s.locks c = some lc → c ≠ n → ∀ l ∈ askL ((getS s.locks n).getD []) p w, ∀ m ∈ lc, (l.alone || m.alone) = true → meet l.s m.s = false := by
      intro c lc hc hcn l hl m hmm ha
      have hold : ∀ k ∈ (getS s.locks n).getD [], (k.alone || m.alone) = true → meet k.s m.s = false := by
        intro k hk
        cases hg : getS s.locks n with
        | none => rw [hg] at hk; cases hk
        | some ls => rw [hg] at hk; exact h.compat n c ls lc hg hc (fun e => hcn e.symm) k hk m hmm
      rcases askL_mem hl with hl | ⟨hls, hla⟩
      · exact hold l hl ha
      · rw [hls]
        rw [Bool.or_eq_true] at ha
        rcases ha with ha | ha
        · rcases hla ha with hw | ⟨k, hk, hks, hka⟩
          · rw [meet_comm]; exact way_no h.keys hno hcn hc hmm (by rw [hw]; rfl)
          · rw [← hks]; exact hold k hk (by rw [hka]; rfl)
        · rw [meet_comm]; exact way_no h.keys hno hcn hc hmm (by rw [ha]; simp)
    refine ⟨setS_nodup h.keys _ _, ?_, ?_, ?_, ?_, ?_⟩
    · intro a c la lc ha hc hac l hl m hmm hal
      rw [hget] at ha hc
      by_cases e1 : a = n
      · subst e1
        rw [if_pos rfl] at ha; cases ha
        rw [if_neg (fun e => hac e.symm)] at hc
        exact hnew c lc hc (fun e => hac e.symm) l hl m hmm hal
      · rw [if_neg e1] at ha
        by_cases e2 : c = n
        · subst e2
          rw [if_pos rfl] at hc; cases hc
          rw [meet_comm]
          exact hnew a la ha e1 m hmm l hl (by rw [Bool.or_comm]; exact hal)
        · rw [if_neg e2] at hc
          exact h.compat a c la lc ha hc hac l hl m hmm hal
    · intro e he
      have := (setS_keys s.locks n (askL ((getS s.locks n).getD []) p w) e.1).1 (List.mem_map.2 ⟨e, he, rfl⟩)
      rcases this with h1 | h1
      · exact ⟨t, findU_mem hf, (findU_mid hf).1.trans h1.symm⟩
      · obtain ⟨e', he', h2⟩ := List.mem_map.1 h1
        obtain ⟨u, hu, h3⟩ := h.opn e' he'
        exact ⟨u, hu, h3.trans h2⟩
    · have := totL_set s.locks n (askL ((getS s.locks n).getD []) p w) (askL_len _ _ _)
      show totL (setS _ _ _) ≤ _
      omega
    · intro _
      exact ⟨_, by rw [hget, if_pos rfl], askL_new _ _ _⟩
    · intro k ls hk
      by_cases e : k = n
      · subst e
        refine ⟨_, by rw [hget, if_pos rfl], fun l hl => ?_⟩
        rw [hk]
        exact askL_old hl
      · exact ⟨ls, by rw [hget, if_neg e]; exact hk, fun l hl => ⟨l, hl, rfl, fun h => h⟩⟩
  · rename_i hm
    exact ⟨h.keys, h.compat, h.opn, by omega, fun h => absurd h hm, fun k ls hk => ⟨ls, hk, fun l hl => ⟨l, hl, rfl, fun h => h⟩⟩⟩
theorem doA_inv {s : StV} {n : UInt32} {x : OpM} : (∃ e, doA s n x = .err s e ∧ (e = 1 ∨ e = 6)) ∨ ∃ t, findU s.txs n = some t ∧ opOk x = true ∧
    ((doA s n x = .err (endsA { s with txs := setU s.txs n { t.x with waits := [] } } n) 9) ∨ (doA s n x = .err { s with txs := setU s.txs n { t.x with waits := wayL s.locks n (spanOf x) (writes x) } } 8) ∨
     ((meet (spanOf x) (spanOf x) = true → wayL s.locks n (spanOf x) (writes x) = []) ∧
      ((writes x = true ∧ doA s n x = .put { s with locks := lkS s n (spanOf x) (writes x), txs := setU s.txs n { t.x with own := t.x.own ++ [chgOf x], waits := [] } }) ∨
       (writes x = false ∧ doA s n x = .look { s with locks := lkS s n (spanOf x) (writes x), txs := setU s.txs n { t.x with waits := [] } } (scanR (changeR s.rows t.x.own) (spanOf x) 256))))) := by
  unfold doA
  cases hx : opOk x with
  | false => exact .inl ⟨1, by simp, .inl rfl⟩
  | true =>
    cases hf : findU s.txs n with
    | none => exact .inl ⟨6, by simp, .inr rfl⟩
    | some t =>
      refine .inr ⟨t, rfl, rfl, ?_⟩
      simp only [if_true]
      split
      · split
        · exact .inl rfl
        · exact .inr (.inl rfl)
      · rename_i hc
        refine .inr (.inr ⟨fun hm => ?_, ?_⟩)
        · rw [hm] at hc
          simp only [Bool.true_and, decide_eq_true_eq] at hc
          exact List.length_eq_zero_iff.1 (by omega)
        · cases hw : writes x
          · exact .inr ⟨rfl, by simp [lkS]⟩
          · exact .inl ⟨rfl, by simp [lkS]⟩
theorem AlphaOk.mono {s : StV} {b c : Nat} (h : AlphaOk s b) (hb : b ≤ c) (hc : c ≤ 1000000000) : AlphaOk s c := ⟨h.st.mono hb hc, h.keys, h.compat, h.opn, by have := h.tot; omega, fun t ht => by have := h.waits t ht; omega, h.nz⟩
theorem AlphaOk.ends {s : StV} {b : Nat} (h : AlphaOk s b) (n : UInt32) : AlphaOk (endsA s n) b := by
  refine ⟨h.st.sub rfl rfl rfl delU_sub, ?_, ?_, ?_, Nat.le_trans (totL_free _ _) h.tot, fun t ht => h.waits t (delU_sub.mem ht), fun t ht => h.nz t (delU_sub.mem ht)⟩
  · exact h.keys.sublist (List.eraseP_sublist.map _)
  · intro a c la lc ha hc
    have ha : getS (freeL s.locks n) a = some la := ha
    have hc : getS (freeL s.locks n) c = some lc := hc
    rw [freeL_get h.keys] at ha hc
    split at ha
    · cases ha
    · split at hc
      · cases hc
      · exact h.compat a c la lc ha hc
  · intro e he
    have he : e ∈ freeL s.locks n := he
    obtain ⟨t, ht, h1⟩ := h.opn e (List.eraseP_sublist.mem he)
    have hne : e.1 ≠ n := by
      intro e1
      have hnd : ((freeL s.locks n).map (·.1)).Nodup := h.keys.sublist (List.eraseP_sublist.map _)
      have := getS_mem hnd he
      rw [freeL_get h.keys, if_pos e1] at this; cases this
    refine ⟨t, ?_, h1⟩
    show t ∈ delU s.txs n
    cases hf : findU s.txs n with
    | none =>
      have : delU s.txs n = s.txs := by
        unfold delU
        rw [List.eraseP_of_forall_not (fun y hy => by have := findU_no hf y hy; simpa using this)]
      rw [this]; exact ht
    | some u =>
      obtain ⟨hid, A, B, hts, hdel, _⟩ := findU_mid hf
      rw [hdel]
      rw [hts] at ht
      rcases List.mem_append.1 ht with ht | ht
      · simp [ht]
      · rcases List.mem_cons.1 ht with rfl | ht
        · exact absurd (h1.symm.trans hid) hne
        · simp [ht]
theorem AlphaOk.beg {s : StV} {b : Nat} (h : AlphaOk s b) (n : UInt32) (q : Nat) : AlphaOk (begS s n q) b := by
  have hs := h.st.beg n q
  have hl : (begS s n q).locks = s.locks := by unfold begS; split <;> rfl
  have hm : ∀ t ∈ s.txs, t ∈ (begS s n q).txs := by unfold begS; split <;> simp +contextual
  refine ⟨hs, by rw [hl]; exact h.keys, by rw [hl]; exact h.compat, by rw [hl]; exact fun e he => let ⟨t, ht, h1⟩ := h.opn e he; ⟨t, hm t ht, h1⟩, by rw [hl]; exact h.tot, ?_, ?_⟩
  · unfold begS
    split
    · intro t ht
      rcases List.mem_append.1 ht with ht | ht
      · exact h.waits t ht
      · simp at ht; subst ht; simp [begT]
    · exact h.waits
  · unfold begS
    split
    · rename_i hE
      intro t ht
      rcases List.mem_append.1 ht with ht | ht
      · exact h.nz t ht
      · simp at ht; subst ht
        intro e
        have e : n = 0 := e
        simp [begE, e] at hE
    · exact h.nz
theorem AlphaOk.com {s : StV} {b : Nat} (h : AlphaOk s b) (hb : b + 1 ≤ 1000000000) (n : UInt32) : AlphaOk (comS alphaI s n) (b + 1) := by
  have hm := h.mono (Nat.le_succ b) hb
  unfold comS
  cases hf : findU s.txs n with
  | none => exact hm
  | some t =>
    simp only
    split
    · exact hm.ends n
    · split
      · rename_i hfit
        have he := hm.ends n
        exact ⟨hm.st.add hf he.st rfl rfl rfl rfl (by have := h.st.hl; omega) hfit, he.keys, he.compat, he.opn, he.tot, he.waits, he.nz⟩
      · exact hm.ends n
theorem mem_setU_opn {s : StV} {n : UInt32} {x : TX} {k : UInt32} (h : ∃ t ∈ s.txs, t.id = k) : ∃ t ∈ setU s.txs n x, t.id = k := by
  obtain ⟨t, ht, h1⟩ := h
  have : k ∈ (setU s.txs n x).map (·.id) := by rw [setU_ids]; exact List.mem_map.2 ⟨t, ht, h1⟩
  obtain ⟨u, hu, h2⟩ := List.mem_map.1 this
  exact ⟨u, hu, h2⟩
theorem nz_set {ts : List TxT} {n : UInt32} {x : TX} (h : ∀ t ∈ ts, t.id ≠ 0) : ∀ t ∈ setU ts n x, t.id ≠ 0 := fun t ht => by
  obtain ⟨u, hu, e⟩ := setU_ids' t ht
  rw [e]; exact h u hu
/-- It waits for others, or for none. -/
theorem AlphaOk.waitsS {s : StV} {b : Nat} (h : AlphaOk s b) {n : UInt32} {t : TxT} (hf : findU s.txs n = some t) (ws : List UInt32) (hw : ws.length ≤ 2 * b) : AlphaOk { s with txs := setU s.txs n { t.x with waits := ws } } b := by
  refine ⟨h.st.waits hf ws rfl rfl rfl rfl, h.keys, h.compat, fun e he => mem_setU_opn (h.opn e he), h.tot, fun u hu => ?_, nz_set h.nz⟩
  rcases setU_mem hu with ⟨v, hv, hvi, rfl⟩ | ⟨hu, _⟩
  · exact hw
  · exact h.waits u hu
theorem AlphaOk.upd {s : StV} {b : Nat} (h : AlphaOk s b) (hb : b + 1 ≤ 1000000000) {n : UInt32} {t : TxT} (hf : findU s.txs n = some t) {p : SpanM} {w : Bool} (hno : meet p p = true → wayL s.locks n p w = []) {own : List ChgM} (ho : own = t.x.own ∨ ∃ c, chgOk c = true ∧ own = t.x.own ++ [c]) :
    AlphaOk { s with locks := lkS s n p w, txs := setU s.txs n { t.x with own := own, waits := [] } } (b + 1) := by
  obtain ⟨k1, k2, k3, k4, _, _⟩ := lkS_facts h hf hno
  obtain ⟨hid, _⟩ := findU_mid hf
  refine ⟨h.st.upd (x := { t.x with own := own, waits := [] }) hb (findU_mem hf) rfl rfl rfl (by rw [hid]) ho (Nat.le_succ_of_le (h.st.lks t (findU_mem hf))), k1, k2, fun e he => mem_setU_opn (k3 e he), k4, fun u hu => ?_, nz_set h.nz⟩
  rcases setU_mem hu with ⟨v, hv, hvi, rfl⟩ | ⟨hu, _⟩
  · exact Nat.zero_le _
  · have := h.waits u hu; omega
theorem VA.same {s s' : StV} {o : Og} (h : VA s o) (hr : s'.H = s.H) (hl : s'.locks = s.locks) (ht : ∀ t ∈ s'.txs, ∃ u ∈ s.txs, t.id = u.id ∧ t.x.own = u.x.own) : VA s' o := fun t htt => by
  obtain ⟨u, hu, h1, h2⟩ := ht t htt
  obtain ⟨k1, k2, k3, k4⟩ := h u hu
  have hR : s'.rows = s.rows := by unfold StV.rows; rw [hr]
  rw [h1, h2, hR, hl]
  exact ⟨k1, k2, k3, k4⟩
theorem VA.ends {s : StV} {b : Nat} (h : AlphaOk s b) {o : Og} (hv : VA s o) (n : UInt32) : VA (endsA s n) o := fun t ht => by
  obtain ⟨k1, k2, k3, k4⟩ := hv t (delU_sub.mem ht)
  refine ⟨k1, k2, k3, fun x hx hm => ?_⟩
  obtain ⟨ls, h1, h2⟩ := k4 x hx hm
  refine ⟨ls, ?_, h2⟩
  show getS (freeL s.locks n) t.id = _
  rw [freeL_get h.keys, if_neg (delU_no h.st.ids n t ht)]; exact h1
/-- Those that ended changed nothing of what one that has locks was told. -/
theorem alpha_still {s : StV} {b : Nat} (h : AlphaOk s b) {o : Og} (hv : VA s o) {t u : TxT} (ht : t ∈ s.txs) (hu : u ∈ s.txs) (hne : u.id ≠ t.id) : (runM (changeR s.rows t.x.own) (o u.id).1).1 = (o u.id).2 := by
  obtain ⟨k1, k2, k3, k4⟩ := hv u hu
  obtain ⟨j1, j2, j3, j4⟩ := hv t ht
  rw [← k3]
  refine run_agree (changeR_rising _ s.rising).1 s.rising _ k2 fun x hx hw r hr => ?_
  refine mem_change_skip _ s.rising fun c hc e => ?_
  rw [j1] at hc
  obtain ⟨y, hy, hyw, rfl⟩ : ∃ y ∈ (o t.id).1, writes y = true ∧ chgOf y = c := by
    unfold chs at hc
    obtain ⟨y, hy, rfl⟩ := List.mem_map.1 hc
    exact ⟨y, (List.mem_filter.1 hy).1, (List.mem_filter.1 hy).2, rfl⟩
  have hkey : (chgOf y).key = y.key := by unfold chgOf; split <;> rfl
  have hsp : spanOf y = one y.key := by
    have : ¬ y.kind = 4 := by intro e4; simp [writes, e4] at hyw
    simp [spanOf, this, one]
  obtain ⟨ly, g1, l, hl, g2, g3⟩ := j4 y hy (by rw [hsp]; exact in_one _)
  have hxm : meet (spanOf x) (spanOf x) = true := meet_iff.2 ⟨r.key, hr, hr⟩
  obtain ⟨lx, f1, m, hm, f2, _⟩ := k4 x hx hxm
  have := h.compat t.id u.id ly lx g1 f1 (fun e => hne e.symm) l hl m hm (by rw [g3 hyw]; rfl)
  rw [g2, f2, hsp, meet_one, ← hkey, e, hr] at this
  cases this
theorem addS_VA {s : StV} {b : Nat} (h : AlphaOk s b) {o : Og} (hv : VA s o) {n : UInt32} {t : TxT} (hf : findU s.txs n = some t) : VA (addS (endsA s n) t.x.own) o := fun u hu => by
  obtain ⟨hid, _⟩ := findU_mid hf
  have hu' : u ∈ s.txs := delU_sub.mem hu
  have hne : u.id ≠ n := delU_no h.st.ids n u hu
  obtain ⟨k1, k2, _, k4⟩ := VA.ends h hv n u hu
  refine ⟨k1, k2, ?_, k4⟩
  rw [addS_rows]
  exact alpha_still h hv (findU_mem hf) hu' (by rw [hid]; exact hne)
theorem VA_upd {s : StV} {b : Nat} (h : AlphaOk s b) {o : Og} (hv : VA s o) {n : UInt32} {t : TxT} (hf : findU s.txs n = some t) {x : OpM} (hx : opOk x = true) {w : Bool} (hw : writes x = w) (hno : meet (spanOf x) (spanOf x) = true → wayL s.locks n (spanOf x) w = []) {own : List ChgM} {told : List RowM}
    (ho : own = chs ((o n).1 ++ [x])) (htold : (runM s.rows ((o n).1 ++ [x])).1 = (o n).2 ++ [told]) :
    VA { s with locks := lkS s n (spanOf x) w, txs := setU s.txs n { t.x with own := own, waits := [] } } (setO o n ((o n).1 ++ [x], (o n).2 ++ [told])) := by
  obtain ⟨f1, f2, f3, f4, f5, f6⟩ := lkS_facts h hf hno
  intro u hu
  rcases setU_mem hu with ⟨v, hv', hvi, rfl⟩ | ⟨hu, hne⟩
  · obtain rfl := uniqU h.st.ids hf hv' hvi
    obtain ⟨k1, k2, k3, k4⟩ := hv v hv'
    simp only
    rw [hvi] at k1 k2 k3 k4 ⊢
    rw [setO_same]
    refine ⟨ho, fun y hy => ?_, htold, fun y hy hm => ?_⟩
    · rcases List.mem_append.1 hy with hy | hy
      · exact k2 y hy
      · simp at hy; subst hy; exact hx
    · rcases List.mem_append.1 hy with hy | hy
      · obtain ⟨ls, g1, l, hl, g2, g3⟩ := k4 y hy hm
        obtain ⟨ls', g4, g5⟩ := f6 n ls g1
        obtain ⟨m, hm', g6, g7⟩ := g5 l hl
        exact ⟨ls', g4, m, hm', g6.trans g2, fun h => g7 (g3 h)⟩
      · simp at hy; subst hy
        obtain ⟨ls, g1, l, hl, g2, g3⟩ := f5 hm
        exact ⟨ls, g1, l, hl, g2, fun h => g3 (hw ▸ h)⟩
  · rw [setO_other _ _ hne]
    obtain ⟨k1, k2, k3, k4⟩ := hv u hu
    refine ⟨k1, k2, k3, fun y hy hm => ?_⟩
    obtain ⟨ls, g1, l, hl, g2, g3⟩ := k4 y hy hm
    obtain ⟨ls', g4, g5⟩ := f6 u.id ls g1
    obtain ⟨m, hm', g6, g7⟩ := g5 l hl
    exact ⟨ls', g4, m, hm', g6.trans g2, fun h => g7 (g3 h)⟩
noncomputable def alphaG : Good alphaI where
  Ok := AlphaOk
  V := VA
  ok := fun h => h.st
  mono := fun h hb hc => h.mono hb hc
  beg := fun h n q => h.beg n q
  endsE := fun _ _ => ⟨rfl, rfl, rfl, rfl⟩
  ends := fun h n => h.ends n
  com := fun h hb n => h.com hb n
  err := fun {s b n x s' e} h he => by
    have he : doA s n x = .err s' e := he
    rcases doA_inv (s := s) (n := n) (x := x) with ⟨e', h1, h2⟩ | ⟨t, hf, hx, h1 | h1 | ⟨_, ⟨_, h1⟩ | ⟨_, h1⟩⟩⟩ <;> rw [h1] at he
    · cases he
      exact ⟨by omega, rfl, rfl, rfl, fun t ht => ⟨t, ht, rfl⟩, h, fun _ h => h⟩
    · cases he
      have hw := h.waitsS hf [] (Nat.zero_le _)
      refine ⟨by decide, rfl, rfl, rfl, fun t ht => setU_ex t (delU_sub.mem ht), hw.ends n, fun o hv => VA.ends hw (hv.same rfl rfl fun u hu => ?_) n⟩
      rcases setU_mem hu with ⟨v, hv', hvi, rfl⟩ | ⟨hu, _⟩
      · obtain rfl := uniqU h.st.ids hf hv' hvi
        exact ⟨v, hv', rfl, rfl⟩
      · exact ⟨u, hu, rfl, rfl⟩
    · cases he
      have hw := h.waitsS hf (wayL s.locks n (spanOf x) (writes x)) (Nat.le_trans (way_len _ _ _ _) (Nat.le_trans (totL_len _) h.tot))
      refine ⟨by decide, rfl, rfl, rfl, setU_ex, hw, fun o hv => hv.same rfl rfl fun u hu => ?_⟩
      rcases setU_mem hu with ⟨v, hv', hvi, rfl⟩ | ⟨hu, _⟩
      · obtain rfl := uniqU h.st.ids hf hv' hvi
        exact ⟨v, hv', rfl, rfl⟩
      · exact ⟨u, hu, rfl, rfl⟩
    · cases he
    · cases he
  put := fun {s b n x s'} h hb he => by
    have he : doA s n x = .put s' := he
    rcases doA_inv (s := s) (n := n) (x := x) with ⟨e', h1, h2⟩ | ⟨t, hf, hx, h1 | h1 | ⟨hno, ⟨hw, h1⟩ | ⟨_, h1⟩⟩⟩ <;> rw [h1] at he
    · cases he
    · cases he
    · cases he
    · cases he
      obtain ⟨hid, _⟩ := findU_mid hf
      refine ⟨t, findU_mem hf, hid, hx, hw, rfl, rfl, rfl, setU_ex, h.upd hb hf hno (.inr ⟨_, chgOf_ok hx hw, rfl⟩), fun o hv => ?_⟩
      obtain ⟨k1, k2, k3, k4⟩ := hv t (findU_mem hf)
      rw [hid] at k1 k2 k3 k4
      exact VA_upd h hv hf hx rfl hno (by rw [chs_snoc_w _ hw, k1]) (by rw [runM_snoc, done_write hx hw]; simp only; rw [k3])
    · cases he
  look := fun {s b n x s' rows} h hb he => by
    have he : doA s n x = .look s' rows := he
    rcases doA_inv (s := s) (n := n) (x := x) with ⟨e', h1, h2⟩ | ⟨t, hf, hx, h1 | h1 | ⟨hno, ⟨hw, h1⟩ | ⟨hw, h1⟩⟩⟩ <;> rw [h1] at he
    · cases he
    · cases he
    · cases he
    · cases he
    · cases he
      obtain ⟨hid, _⟩ := findU_mid hf
      refine ⟨t, findU_mem hf, hid, hx, hw, rfl, rfl, rfl, setU_ex, h.upd (own := t.x.own) hb hf hno (.inl rfl), by unfold scanR; simp; omega, fun o hv => ?_⟩
      obtain ⟨k1, k2, k3, k4⟩ := hv t (findU_mem hf)
      rw [hid] at k1 k2 k3 k4
      exact VA_upd (own := t.x.own) h hv hf hx rfl hno (by rw [chs_snoc_r _ hw, k1]) (by rw [runM_snoc, run_left s.rising _ k2, done_read (changeR_rising _ s.rising).1 hx hw]; simp only; rw [k3, k1])
  vbeg := fun {s b o} h hv n q hE => by
    have hf := (begE_zero hE).2
    intro t ht
    rw [begS, if_pos hE] at ht ⊢
    rcases List.mem_append.1 ht with ht | ht
    · rw [setO_other _ _ (fun e => findU_none hf (List.mem_map.2 ⟨t, ht, e⟩))]; exact hv t ht
    · simp at ht; subst ht
      show [] = chs (setO o n ([], []) n).1 ∧ (∀ x ∈ (setO o n ([], []) n).1, _) ∧ (runM _ (setO o n ([], []) n).1).1 = (setO o n ([], []) n).2 ∧ ∀ x ∈ (setO o n ([], []) n).1, _
      rw [setO_same]; simp [chs, runM_nil]
  vends := fun h hv n => VA.ends h hv n
  vcongr := fun hv ho t ht => by rw [← ho t ht]; exact hv t ht
  vown := fun hv t ht => ⟨(hv t ht).1, (hv t ht).2.1⟩
  vcom := fun {s b o n t} h hv hf hc hfit => by
    obtain ⟨hid, _⟩ := findU_mid hf
    obtain ⟨k1, k2, k3, k4⟩ := hv t (findU_mem hf)
    rw [hid] at k3
    exact ⟨k3, addS_VA h hv hf⟩
theorem alp_first : AlphaOk stF 0 := ⟨st0_first, by simp [stF, st0], by simp [stF, st0, getS], by simp [stF, st0], by decide, by simp [stF, st0], by simp [stF, st0]⟩
theorem VA_first : VA stF (ogD []) := by intro t h; cases h
end Go.SL

/- The steps of the walk: a range over a function that lends something to each round. -/
import Derived.Test.YtdfomffmfnpfoaaGreatSLq
set_option linter.unusedSimpArgs false
set_option linter.unusedVariables false
set_option linter.unusedSectionVars false
namespace Go.SL
open Go
/-- The contract of an iterator that lends 'Lend' to each round. -/
def IterL {α : Type} (Lend : HP) (P : Program) (g : World) (f : FuncId) (args : Value → List Value) (Pre : List HP) (enc : α → List Value) (Res : α → HP) (All Pfx : List α → Prop) (Out : List HP) : Prop :=
  ∀ (y : Value) (J : List α → HP) (X : List α → α → HP) (cont : List α → α → Prop),
    (∀ pre x, Pfx (pre ++ [x]) → Hist cont pre → CallV P g y (enc x) [J pre, Res x, Lend] fun K R => (cont pre x → K (.bool true) (J (pre ++ [x]) :: Lend :: R)) ∧ (¬ cont pre x → K (.bool false) (X pre x :: Lend :: R))) →
    Spec P g f (args y) (J [] :: Pre) fun K R => (∀ xs, All xs → Hist cont xs → K (.tuple #[]) (J xs :: (Out ++ R))) ∧
      (∀ pre x, Pfx (pre ++ [x]) → Hist cont pre → ¬ cont pre x → K (.tuple #[]) (X pre x :: (Out ++ R)))
section
variable {P : Program} {r : Option Nat} {g : World} {Γ : Env} {L M : List HP}
theorem WP.rangeL {α : Type} {enc : α → List Value} {gop : Operand} {ps : List Tmp} {assign body : Code} {fs cs : List Value} {f : FuncId} {n : Nat} {D : List Deferred} {l : List (Nat × Value)} {Pre Out R : List HP} {All Pfx : List α → Prop} {Q : Post} {Lend : HP}
    (J : List α → HP) (X : List α → α → Code → HP) (cont : List α → α → Prop) {Res : α → HP} (hit : IterL Lend P g f (fun y => fs ++ [y] ++ cs) Pre enc Res All Pfx Out) (hf : callable P f = true)
    (hL : Split L (J [] :: Pre) R)
    (hbody : ∀ lb db fn tmps pre x R', Pfx (pre ++ [x]) → Hist cont pre → WP P (some lb) g assign (AsgP P g lb body (RndP P g lb ⟨.busy, none, fn, tmps, ps.toArray, assign, body, db⟩ (J (pre ++ [x])) (X pre x) (cont pre x) (Lend :: R'))) ⟨n, [], setParams ps (enc x) l⟩ (Lp lb ⟨.ready, none, fn, tmps, ps.toArray, assign, body, db⟩ :: J pre :: Res x :: Lend :: R'))
    (hdone : ∀ db xs, All xs → Hist cont xs → PO g Q .normal ⟨n, ⟨.collected db, #[]⟩ :: D, l⟩ (J xs :: pt db (.deferred (some [])) :: (Out ++ R)))
    (hstop : ∀ db pre x j, Pfx (pre ++ [x]) → Hist cont pre → ¬ cont pre x → WP P none g j Q ⟨n, ⟨.collected db, #[]⟩ :: D, l⟩ (X pre x j :: pt db (.deferred (some [])) :: (Out ++ R)))
    (hpl : ∀ x, (enc x).length = ps.length) (hg : ev ⟨n, D, l⟩ gop = some (.func (.func f) fs.toArray cs.toArray) := by rfl) (hps : ps.all (Nat.blt · n) = true := by rfl) : WP P none g (.rangeFunc gop ps.toArray assign body) Q ⟨n, D, l⟩ L := by
  intro a w ha hw
  refine wpIn_rangeFunc fun fn _ => ?_
  let db := w.heap.size
  let lb := w.heap.size + 1
  let rec0 : Loop := ⟨.ready, none, fn, a.tmps, ps.toArray, assign, body, db⟩
  let w1 : World := (w.alloc (.deferred (some []))).alloc (.loop rec0)
  have hent : (Instr.enterLoop fn a.tmps ps.toArray assign body (FR none).round).run P w = .ok (lb, [⟨.collected db, #[]⟩]) w1 := by
    unfold Instr.enterLoop
    simp [FR, Fence.wide, w1, lb, db, rec0]
  refine ⟨lb, [⟨.collected db, #[]⟩], w1, { target := .fn (.func f) cs.toArray, args := fs.toArray ++ #[Value.func (.yield lb) #[] #[]] }, w1, f, (fs ++ [Value.func (.yield lb) #[] #[]] ++ cs).toArray, w1, hent, ?_, fun _ _ => trivial, ?_, depth_FR none 0, ?_⟩
  · simp only [resolve, ev_ok hg ha]
    simp [Deferred.ofValue, Act.eval]
  · simp only [invoke]; rw [callFunc_enter hf]; simp
  · -- the call of the iterator
    let J' : List α → HP := fun pre => bun [Lp lb rec0, J pre]
    let X' : List α → α → HP := fun pre x => ex fun j : Code => bun [Lp lb { rec0 with state := .done, pending := some j }, X pre x j]
    have hy : ∀ pre x, Pfx (pre ++ [x]) → Hist cont pre → CallV P g (.func (.yield lb) #[] #[]) (enc x) [J' pre, Res x, Lend] fun K R => (cont pre x → K (.bool true) (J' (pre ++ [x]) :: Lend :: R)) ∧ (¬ cont pre x → K (.bool false) (X' pre x :: Lend :: R)) := by
      intro pre x hp hh R' K w2 r2 hw2 ⟨hT1, hT2⟩
      have hw3 : Sat g (Lp lb rec0 :: J pre :: Res x :: Lend :: R') w2 := hw2.conv fun _ => stars_bun
      refine ⟨{ target := .fn (.yield lb) #[], args := (enc x).toArray }, _, w2, fun w => by simp [Deferred.ofValue], yield_run (rec := rec0) (hw3.get .z) (by simp [rec0, hpl]), ?_⟩
      show RoundIn (FR r2) 0 P lb fn ((ps.toArray.zip (enc x).toArray).foldl (fun tmps (t, a) => tmps.setIfInBounds t a) a.tmps) assign body w2 (RetK g K)
      refine roundIn_of_wpIn trivial ?_
      have hΓ : Env.ok ⟨n, [], setParams ps (enc x) l⟩ ⟨(ps.toArray.zip (enc x).toArray).foldl (fun tmps (t, a) => tmps.setIfInBounds t a) a.tmps, []⟩ := setParams_ok hps ⟨ha.size, rfl, ha.at_⟩
      refine wpIn_mono (hbody lb db fn a.tmps pre x R' hp hh _ w2 hΓ hw3) ?_
      intro e a₁ w₁ hq
      cases e <;> first | exact hq.elim | skip
      obtain ⟨w₂, hb, hq⟩ := hq
      refine ⟨w₂, hb, wpIn_mono hq ?_⟩
      intro e a₂ w₃ hq
      have fin : ∀ v w₄, ((cont pre x ∧ Ending.returned v = .returned (.bool true) ∧ Sat g (Lp lb { rec0 with state := .ready, pending := none } :: J (pre ++ [x]) :: Lend :: R') w₄) ∨ (¬ cont pre x ∧ Ending.returned v = .returned (.bool false) ∧ ∃ j, Sat g (Lp lb { rec0 with state := .done, pending := some j } :: X pre x j :: Lend :: R') w₄)) → RetK g K (.returned v) w₄ := by
        rintro v w₄ (⟨hc, e1, h1⟩ | ⟨hc, e1, j, h1⟩)
        · cases e1
          exact ⟨_, _, rfl, hT1 hc, h1.conv fun _ => bun_stars (L := [_, _])⟩
        · cases e1
          exact ⟨_, _, rfl, hT2 hc, h1.conv fun _ h => ex_stars j (bun_stars (L := [_, _]) h)⟩
      cases e <;> first | exact hq.elim | skip
      all_goals
        obtain ⟨v, w₄, h1, h2⟩ := hq
        exact ⟨v, w₄, h1, fin v w₄ h2⟩
    have hw1 : Sat g (J' [] :: Pre ++ (pt db (.deferred (some [])) :: R)) w1 := by
      have h1 := hw.push (.deferred (some []))
      have h2 := h1.push (.loop rec0)
      refine h2.conv fun S hS => ?_
      have h3 : (w.alloc (.deferred (some []))).heap.size = lb := by simp [lb]
      have hS' : stars (Lp lb rec0 :: pt db (.deferred (some [])) :: L) S := by
        have := hS; simp only [World.alloc] at h3; rw [h3] at this; exact this
      have h4 : stars (Lp lb rec0 :: pt db (.deferred (some [])) :: (J [] :: Pre ++ R)) S := stars_cons (fun _ => stars_cons (fun _ => hL.to)) hS'
      refine bun_stars (L := [Lp lb rec0, J []]) ?_
      refine stars_cons (fun S h => ?_) h4
      have h5 : stars (J [] :: pt db (.deferred (some [])) :: (Pre ++ R)) S := stars_swap h
      exact stars_cons (fun S h => stars_move h) h5
    have hcall := hit (.func (.yield lb) #[] #[]) J' X' cont hy (pt db (.deferred (some [])) :: R) (fun v M => ∀ w3, Sat g M w3 → rangePost (FR none) 0 P lb Q { a with defers := [⟨.collected db, #[]⟩] ++ a.defers } (.returned v) w3) w1 hw1 ?_
    · refine HO.enter.callsIn_fr (hcall.mono ?_)
      rintro e w3 ⟨v, M, rfl, hk, hw3⟩
      exact hk w3 hw3
    · have haD : Env.ok ⟨n, ⟨.collected db, #[]⟩ :: D, l⟩ { a with defers := [⟨.collected db, #[]⟩] ++ a.defers } := ⟨ha.size, by simp [show a.defers = D from ha.defers], ha.at_⟩
      refine ⟨fun xs hx hh w3 hw3 => ?_, fun pre x hp hh hc w3 hw3 => ?_⟩
      · have h1 : Sat g (Lp lb rec0 :: J xs :: (Out ++ pt db (.deferred (some [])) :: R)) w3 := hw3.conv fun _ => stars_bun
        refine ⟨none, _, run_endLoop (h1.get .z) rfl, ?_⟩
        have h2 := lp_set (rec' := { rec0 with state := .exhausted }) h1
        exact hdone db xs hx hh _ _ haD (h2.conv fun _ h => stars_cons (fun _ => stars_unmove) (stars_tail h))
      · obtain ⟨j, h1⟩ : ∃ j, Sat g (Lp lb { rec0 with state := .done, pending := some j } :: X pre x j :: (Out ++ pt db (.deferred (some [])) :: R)) w3 := by
          obtain ⟨j, hj⟩ := stars_ex hw3.heap
          exact ⟨j, hw3.os, hw3.tape, hw3.output, hw3.size, stars_bun hj⟩
        refine ⟨some j, _, run_endLoop (h1.get .z) rfl, ?_⟩
        have h2 := lp_set (rec' := { rec0 with state := .exhausted, pending := some j }) h1
        exact hstop db pre x j hp hh hc _ _ haD (h2.conv fun _ h => stars_cons (fun _ => stars_unmove) (stars_tail h))
theorem own_to {S : Piece} {E z n i : Nat} {u : Value} {cs : List Value} (h : Own E z u n cs S) (hi : i ≤ n) : Own E z (subV u 0 i none z) i (cs.take (i * z)) S := by
  rcases h with ⟨rfl, h2, a, h3⟩ | ⟨b, o, c, l, rfl, h2, h3, h4, h5, h6⟩
  · have : i = 0 := by omega
    subst this; subst h2; subst h3
    exact .inl ⟨rfl, by simp, a, by simp [subV]⟩
  · refine .inr ⟨b, o, c, l, ?_, by omega, h3, h4, h5, ?_⟩
    · simp [subV, add_none]
    · rw [h6, List.take_take, Nat.min_eq_left (Nat.mul_le_mul_right _ hi)]
theorem sl_to {α : Type} {S : Piece} {E z i : Nat} {u : Value} {enc : α → List Value} {xs : List α} (he : EncOk z enc) (h : Sl E z enc u xs S) (hi : i ≤ xs.length) : Sl E z enc (subV u 0 i none z) (xs.take i) S := by
  have := own_to h hi
  unfold Sl
  rw [List.length_take, Nat.min_eq_left hi, ← flat_take he]; exact this
theorem hl_clear {α : Type} {T E z y lo : Nat} {x : Operand} {enc : α → List Value} {u w' : Value} {zs : List Value} {xs : List α} {N : List HP} {K : Value → List HP → Prop} (z0 : α) (hs : slOf P T = some (E, z, y)) (hz : zeroOf P E = some zs) (he : EncOk z enc) (hz0 : enc z0 = zs) (hlo : lo ≤ xs.length) (h0 : 0 < xs.length)
    (hK : K (.tuple #[]) N) (hu : w' = subV u lo xs.length none z := by rfl) (hx : ev Γ x = some w' := by rfl) (hp : Put L (Sl E z enc u xs) (Sl E z enc u (xs.take lo ++ List.replicate (xs.length - lo) z0)) N := by repeat first | exact .z | apply Put.s) {dst : Option Tmp} {t : TypeId} {pos : String} {aft : Array Edge} {gd : Option (Nat × Bool)} : HO P r g ⟨dst, .call ⟨.builtin .clear, #[x], #[T]⟩, t, pos, aft, gd⟩ Γ L K := by
  intro a w Q next ha hw hn
  obtain ⟨R, p1, p2⟩ := hp.picks
  obtain ⟨S1, S2, hd, l1, l2, h1, h2⟩ := p1.to hw.heap
  obtain ⟨b, o, c, l, e1, e2, e3, e4, e5, e6⟩ := own_at h1 h0
  have hw' : Sat g (cl b E l :: R) w := ⟨hw.os, hw.tape, hw.output, hw.size, S1, S2, hd, l1, l2, e6, h2⟩
  have hA : At w' b (o + lo * z) (xs.length - lo) (c - lo) := by
    rw [hu, e1]
    exact (At.lit (b := b) (o := o) e2).sub (lo := lo) (hi := xs.length) (m := c) (z := z) hlo e2 (Nat.le_refl _)
  have hcz : (c - lo) * z = c * z - lo * z := Nat.sub_mul _ _ _
  have hlz : lo * z ≤ c * z := Nat.mul_le_mul_right _ (by omega)
  have hnz : xs.length * z ≤ c * z := Nat.mul_le_mul_right _ e2
  have hnz2 : lo * z ≤ xs.length * z := Nat.mul_le_mul_right _ hlo
  have hnz3 : (xs.length - lo) * z = xs.length * z - lo * z := Nat.sub_mul _ _ _
  have hrl : ((List.replicate (xs.length - lo) zs).flatten).length = (xs.length - lo) * z := by simp [← hz0, he.len]
  refine h_clear (K := fun v M => K v N ∧ M = cl b E (splice l (o + lo * z) (List.replicate (xs.length - lo) zs).flatten) :: R) (L := cl b E l :: R) (l := l) (b := b) (U := E) (N := _ :: R) hs hz hA (by omega) ?_ (by rw [← hz0]; exact he.len z0) (by rw [← hz0]; exact he.one z0) hx .z a w Q next ha hw' ?_
  · exact ⟨hK, rfl⟩
  · rintro v M w2 ⟨hk, rfl⟩ hw2
    refine hn v N w2 hk (hw2.conv fun S hS => p2.back (stars_one_cons (fun S h => ?_) hS))
    unfold Sl
    have hlen : (xs.take lo ++ List.replicate (xs.length - lo) z0).length = xs.length := by simp; omega
    rw [hlen, e1]
    refine at_own (At.lit e2) e3 ?_ ?_ S h
    · rw [splice_len _ _ _ (by rw [hrl]; omega)]; exact e4
    · apply List.ext_getElem?
      intro i
      rw [td_get, splice_get _ _ _ (by rw [hrl]; omega), hrl, List.flatMap_append, List.getElem?_append, flat_len he, List.length_take, Nat.min_eq_left hlo]
      have hi5 : ∀ i, i < xs.length * z → l[o + i]? = (xs.flatMap enc)[i]? := fun i hi => by rw [← e5, td_get, if_pos hi]
      by_cases h1 : i < lo * z
      · rw [if_pos (by omega), if_pos (by omega), if_pos h1, hi5 i (by omega), ← flat_take he, List.getElem?_take, if_pos h1]
      · rw [if_neg h1]
        by_cases h2 : i < xs.length * z
        · rw [if_pos h2, if_neg (by omega), if_pos (by omega), show o + i - (o + lo * z) = i - lo * z by omega, List.flatMap_replicate, hz0]
        · rw [if_neg h2]
          symm; apply List.getElem?_eq_none
          rw [List.flatMap_replicate, hz0, hrl]; omega
where
  stars_one_cons {A B : HP} {R : List HP} {S : Piece} (h : ∀ S, A S → B S) (hs : stars (A :: R) S) : stars (B :: R) S := by
    obtain ⟨S1, S2, a, b, c, d, e⟩ := hs; exact ⟨S1, S2, a, b, c, h _ d, e⟩
theorem e_min32 {dst : Option Tmp} {t : TypeId} {pos : String} {aft : Array Edge} {gd : Option (Nat × Bool)} {x y : Operand} {T U : TypeId} {a b : UInt32} (hx : ev Γ x = some (.int .u32 a.toNat) := by rfl) (hy : ev Γ y = some (.int .u32 b.toNat) := by rfl) : EO P g ⟨dst, .call ⟨.builtin .min, #[x, y], #[T, U]⟩, t, pos, aft, gd⟩ Γ L (.int .u32 (if b < a then b else a).toNat) := by
  have h := e_minI (P := P) (g := g) (L := L) (dst := dst) (t := t) (pos := pos) (aft := aft) (gd := gd) (T := T) (U := U) hx hy
  have e : (if (b.toNat : Int) < a.toNat then (b.toNat : Int) else a.toNat) = ((if b < a then b else a).toNat : Nat) := by
    by_cases h : b < a
    · rw [if_pos h, if_pos (by have := UInt32.lt_iff_toNat_lt.1 h; omega)]
    · rw [if_neg h, if_neg (by intro h'; exact h (UInt32.lt_iff_toNat_lt.2 (by omega)))]
  rw [← e]; exact h
theorem CallV.bun {y v : Value} {args : List Value} {L : List HP} (h : CallV P g y args L fun K R => K v (L ++ R)) : CallV P g y args [SL.bun L] fun K R => K v (SL.bun L :: R) := by
  intro R K w r hw hT
  obtain ⟨d, nx, w', h1, h2, h3⟩ := h R (fun u M => u = v ∧ M = L ++ R) w r (hw.conv fun _ => stars_bun) ⟨rfl, rfl⟩
  have hm : ∀ e w, RetK g (fun u M => u = v ∧ M = L ++ R) e w → RetK g K e w := by
    rintro e w ⟨u, M, rfl, ⟨rfl, rfl⟩, hs⟩
    exact ⟨_, _, rfl, hT, hs.conv fun _ => bun_stars⟩
  refine ⟨d, nx, w', h1, h2, ?_⟩
  cases nx <;> simp only at h3 ⊢ <;> first | exact h3.elim | exact h3.mono hm | exact RoundIn.mono h3 hm
theorem e_mne {κ : Type} [DecidableEq κ] {ek : κ → Value} {kvs : List (κ × Value)} {m : Value} {dst : Option Tmp} {t : TypeId} {pos : String} {aft : Array Edge} {gd : Option (Nat × Bool)} {xt yt kt e : TypeId} {x y : Operand} (hT : P.underlying xt = some (.map kt e)) (hx : ev Γ x = some m := by rfl) (hy : ev Γ y = some (.map none) := by rfl) (hp : Pick L (Mp ek m kvs) M := by repeat first | exact .z | apply Pick.s) :
    EO P g ⟨dst, .binOp .neq xt x y yt, t, pos, aft, gd⟩ Γ L (.bool true) :=
  .of (by simp) fun ρ hρ w hw => by
    have h1 := hρ x m (by simp [Op.operands]) hx
    have h2 := hρ y _ (by simp [Op.operands]) hy
    obtain ⟨b, es, clock, rfl, _⟩ := hw.mp hp
    show ((do pure (Next.value (← (do eqGuard .neq xt x y (ρ x) (ρ y); binOp .neq xt (ρ x) (ρ y) : Sem Value))) : Sem Next)).run P w = _
    rw [h1, h2, eqGuard_at_map]
    show ((do pure (Next.value (← (do pure (.bool (!(← Op.equal xt (.map (some b)) (.map none)))) : Sem Value))) : Sem Next)).run P w = _
    have he : (Op.equal xt (.map (some b)) (.map none)).run P w = .ok false w := by
      unfold Op.equal; rw [show Op.maxDepth = 9999 + 1 from rfl]; unfold Op.equalIn; simp only [Sem.run_bind, run_underlying hT, Result.andThen_ok]; rfl
    simp only [Sem.run_bind, he, Result.andThen_ok, Sem.run_pure]; rfl
theorem MpIt_Mp {κ : Type} {ek : κ → Value} {m it : Value} {kvs left : List (κ × Value)} {cur : Option (κ × Value)} : ∀ S, MpIt ek m it kvs left cur S → Mp ek m kvs S := fun S h => by
  obtain ⟨b, i, es, clock, seen, rfl, _, _, hb, _, h3, h4, h5, _⟩ := h
  exact ⟨b, es, clock, rfl, hb, h3, h4, h5⟩
theorem lit_own {α : Type} {z b n : Nat} {E : TypeId} {enc : α → List Value} (he : EncOk z enc) {l : List Value} (xs : List α) (h : xs.flatMap enc = l) (hn : xs.length = n) (hb : n < 9223372036854775808) : ∀ S, cl b E l S → Sl E z enc (.slice (some ⟨b, 0, none⟩) n n) xs S := fun S hS => by
  unfold Sl
  have hl : l.length = n * z := by rw [← h, flat_len he, hn]
  rw [hn]
  refine at_own (At.lit (Nat.le_refl n)) hb (by omega) ?_ S hS
  rw [List.drop_zero, List.take_of_length_le (by omega), h]
theorem hist_all {α : Type} {c : α → Prop} {xs : List α} (h : Hist (fun _ x => c x) xs) : ∀ x ∈ xs, c x := fun x hx => by
  obtain ⟨A, B, rfl⟩ := List.append_of_mem hx
  exact h A x B rfl
end
end Go.SL

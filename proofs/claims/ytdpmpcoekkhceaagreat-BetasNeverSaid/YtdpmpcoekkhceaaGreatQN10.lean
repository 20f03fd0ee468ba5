/- SLz N8: rules and walks, several texts in one. -/
import Derived.Test.YtdpmpcoekkhceaaGreatQN9
import Derived.Shelf.SlSortCmp.WholeK
import Derived.Shelf.SlSortCmp.Whole1
import Derived.Sort.AssemblyPlain
/- The library's sort by a function, as a contract over pieces. -/
set_option linter.unusedSimpArgs false
set_option linter.unusedVariables false
set_option linter.unusedSectionVars false
namespace Go.SL
open Go Go.Proofs Go.Sort Go.Shelf
/-- A row of cells of a block is another one; the other blocks are as they were. -/
theorem putCells_splice {β : Type} [Inhabited β] (f : β → Value) (off : Nat) (d : Array β) (l : List Value) (h : off + d.size ≤ l.length) : (putCells f off d l.toArray).toList = splice l off (d.toList.map f) := by
  apply List.ext_getElem?
  intro i
  rw [splice_get _ _ _ (by simpa using h)]
  simp only [putCells, Array.toList_mapIdx, List.getElem?_mapIdx, List.length_map, Array.length_toList]
  by_cases h1 : i < off
  · rw [if_pos h1]
    cases e : l[i]? with
    | none => simp [e]
    | some x => simp [e]; intro h2; omega
  · rw [if_neg h1]
    by_cases h2 : i < off + d.size
    · rw [if_pos h2]
      have hl : i < l.length := by omega
      have hd : i - off < d.size := by omega
      simp only [List.getElem?_eq_getElem hl, Option.map_some]
      rw [if_pos ⟨by omega, h2⟩, List.getElem?_map, Array.getElem?_toList, Array.getElem?_eq_getElem hd]
      simp [getElem!_pos d (i - off) hd]
    · rw [if_neg h2]
      cases e : l[i]? with
      | none => simp [e]
      | some x => simp [e]; intro _ h3; omega
theorem flatK_list {α : Type} [Inhabited α] {enc : α → List Value} {k : Nat} (he : EncOk k enc) (d : Array α) : (flatK enc k d).toList = d.toList.flatMap enc := by
  apply List.ext_getElem?
  intro i
  rcases Nat.lt_or_ge i (d.size * k) with h | h
  · have k0 : 0 < k := by rcases Nat.eq_zero_or_pos k with e | e; · subst e; simp at h
                          · exact e
    have hj : i / k < d.size := Nat.div_lt_of_lt_mul (by rwa [Nat.mul_comm])
    have hx : d.toList[i / k]? = some d[i / k]! := by rw [Array.getElem?_toList, Array.getElem?_eq_getElem hj, getElem!_pos d _ hj]
    have hm := flat_at he hx (i % k) (Nat.mod_lt _ k0)
    rw [Nat.div_add_mod'] at hm
    rw [hm, Array.getElem?_toList, Array.getElem?_eq_getElem (by simpa using h)]
    have hg := get_flatK enc k d i h
    rw [getElem!_pos _ i (by simpa using h)] at hg
    rw [hg]
    have : i % k < (enc d[i / k]!).length := by rw [he.len]; exact Nat.mod_lt _ k0
    rw [List.getElem?_eq_getElem this, List.getElem!_eq_getElem?_getD, List.getElem?_eq_getElem this]; rfl
  · rw [List.getElem?_eq_none (by simpa using h), List.getElem?_eq_none (by rw [flat_len he]; simpa using h)]
theorem splice_part (l vs : List Value) (o : Nat) (h : o + vs.length ≤ l.length) : ((splice l o vs).drop o).take vs.length = vs := by
  have h0 : (l.take o).length = o := by rw [List.length_take]; omega
  rw [splice_eq vs l o h, List.append_assoc, List.drop_left' h0, List.take_left' rfl]
section
variable {P : Program} {ρ : Ren} {g : World}
/-- The world behind the sort: a row put, some blocks more, some draws on. -/
theorem sat_row {β : Type} [Inhabited β] (f : β → Value) {E z : Nat} {u : Value} {cs : List Value} {n b o c m : Nat} {l : List Value} {D : Array β} {os : Array Obj} {L R : List HP} {w : World} {S1 S2 : Piece} (hw : Sat g L w) (hd : disj S1 S2) (l1 : le S1 (heapOf w)) (l2 : le S2 (heapOf w))
    (hu : u = .slice (some ⟨b, o, none⟩) n c) (hnc : n ≤ c) (hc : c < 9223372036854775808) (hS : S1 b = some (.cells (List.toArray l) E (0, 0))) (hl : o + c * z ≤ l.length) (hD : D.size = n * z) (hcs : D.toList.map f = cs) (hR : stars R S2) :
    Sat g (Own E z u n cs :: R) (grow (putRow f (Sort.ahead w m) b o D) os) := by
  have hb := l1 _ _ hS
  have hbl : b < w.heap.size := by
    rcases Nat.lt_or_ge b w.heap.size with h' | h'
    · exact h'
    · simp [heapOf, Array.getElem?_eq_none h'] at hb
  have hnz : n * z ≤ c * z := Nat.mul_le_mul_right z hnc
  have hsz : (putRow f (Sort.ahead w m) b o D).heap.size = w.heap.size := by simp [putRow, mapBlock, Sort.ahead]
  have hat : ∀ i, i < w.heap.size → (grow (putRow f (Sort.ahead w m) b o D) os).heap[i]? = if i = b then some (.cells (putCells f o D l.toArray) E (0, 0)) else w.heap[i]? := fun i hi => by
    have : (grow (putRow f (Sort.ahead w m) b o D) os).heap[i]? = (putRow f (Sort.ahead w m) b o D).heap[i]? := by
      show ((putRow f (Sort.ahead w m) b o D).heap ++ os)[i]? = _
      rw [Array.getElem?_append_left (by rw [hsz]; exact hi)]
    rw [this]
    show (w.heap.modify b (onCells _))[i]? = _
    rw [Array.getElem?_modify]
    by_cases e : i = b
    · subst e
      rw [if_pos rfl, if_pos rfl]
      have : w.heap[i]? = some (.cells (List.toArray l) E (0, 0)) := hb
      rw [this]; rfl
    · rw [if_neg (Ne.symm e), if_neg e]
  have hS2 : S2 b = none := by
    rcases hd b with h0 | h0
    · rw [hS] at h0; cases h0
    · exact h0
  refine ⟨hw.os, hw.tape, hw.output, ?_, fun i => if i = b then some (.cells (putCells f o D l.toArray) E (0, 0)) else none, S2, fun i => ?_, fun i x hx => ?_, fun i x hx => ?_, ?_, hR⟩
  · have := hw.size
    show _ ≤ ((putRow f (Sort.ahead w m) b o D).heap ++ os).size
    rw [Array.size_append, hsz]; omega
  · by_cases hi : i = b
    · subst hi; exact .inr hS2
    · left; simp [hi]
  · by_cases hi : i = b
    · subst hi; simp at hx; subst hx
      show (grow _ _).heap[i]? = _
      rw [hat i hbl, if_pos rfl]
    · simp [hi] at hx
  · have hi : i ≠ b := fun e => by subst e; rw [hS2] at hx; cases hx
    have hx' := l2 _ _ hx
    have hil : i < w.heap.size := by
      rcases Nat.lt_or_ge i w.heap.size with h' | h'
      · exact h'
      · simp [heapOf, Array.getElem?_eq_none h'] at hx'
    show (grow _ _).heap[i]? = _
    rw [hat i hil, if_neg hi]; exact hx'
  · have hsp := putCells_splice f o D l (by rw [hD]; omega)
    have hle : o + (D.toList.map f).length ≤ l.length := by simp [hD]; omega
    refine .inr ⟨b, o, c, splice l o (D.toList.map f), hu, hnc, hc, ?_, ?_, ?_⟩
    · simp only [if_true]
      congr 1
      rw [← hsp]
    · rw [splice_len _ _ _ hle]; exact hl
    · have h := splice_part l (D.toList.map f) o hle
      rw [hcs] at h
      have hlen : cs.length = n * z := by rw [← hcs]; simp [hD]
      rw [hlen] at h
      rw [hcs]; exact h.symm
theorem heap_row {β : Type} [Inhabited β] (f : β → Value) {b o m : Nat} {D : Array β} {os : Array Obj} {w : World} {S1 S2 S3 : Piece} {x : Obj} (hd : disj S1 S2) (l2 : le S2 (heapOf w)) (hS : S1 b = some x) (h3 : le S3 S2) : le S3 (heapOf (grow (putRow f (Sort.ahead w m) b o D) os)) := fun i y hy => by
  have hy2 := h3 i y hy
  have hi : i ≠ b := fun e => by
    subst e
    rcases hd i with h0 | h0
    · rw [hS] at h0; cases h0
    · rw [hy2] at h0; cases h0
  have hy' := l2 _ _ hy2
  have hil : i < w.heap.size := by
    rcases Nat.lt_or_ge i w.heap.size with h' | h'
    · exact h'
    · simp [heapOf, Array.getElem?_eq_none h'] at hy'
  have hsz : (putRow f (Sort.ahead w m) b o D).heap.size = w.heap.size := by simp [putRow, mapBlock, Sort.ahead]
  show ((putRow f (Sort.ahead w m) b o D).heap ++ os)[i]? = _
  rw [Array.getElem?_append_left (by rw [hsz]; exact hil)]
  show (w.heap.modify b (onCells _))[i]? = _
  rw [Array.getElem?_modify, if_neg (Ne.symm hi)]
  exact hy'
theorem holds_of {β : Type} [Inhabited β] (f : β → Value) {E b o : Nat} {l : List Value} {D : Array β} {w : World} (hb : w.heap[b]? = some (.cells (List.toArray l) E (0, 0))) (hl : o + D.size ≤ l.length) (hc : (l.drop o).take D.size = D.toList.map f) : Holds f w b o D := fun j hj => by
  refine ⟨?_, by simp [World.frozen?, hb]⟩
  have h := congrArg (·[j]?) hc
  have hD2 : D.toList[j]? = some D[j]! := by rw [Array.getElem?_toList, Array.getElem?_eq_getElem hj, getElem!_pos D j hj]
  rw [td_get, if_pos hj, List.getElem?_map, hD2] at h
  simp only [World.cell?, hb, Option.isSome_none, Bool.false_eq_true, if_false]
  rw [List.getElem?_toArray, h]; rfl
theorem perm_list {α : Type} [Inhabited α] {d d' : Array α} (h : PermIn 0 d.size d d') : d'.size = d.size ∧ d'.toList.Perm d.toList := by
  obtain ⟨h1, _, h3⟩ := h
  refine ⟨h1, ?_⟩
  rwa [← h1, Array.extract_size, h1, Array.extract_size] at h3
theorem sorted_list {α : Type} [Inhabited α] {lt : α → α → Bool} {d' : Array α} {n : Nat} (hn : d'.size = n) (h : SortedIn lt 0 n d') : d'.toList.Pairwise fun a b => lt b a = false := by
  rw [List.pairwise_iff_getElem]
  intro i j hi hj hij
  simp only [Array.length_toList] at hi hj
  have := h i j (Nat.zero_le _) hij (by omega)
  rw [getElem!_pos d' i hi, getElem!_pos d' j hj] at this
  simpa using this
/-- What is asked of the function: called where 'B' holds, it tells 'cf', and does nothing but lay blocks, and draw. -/
def CmpB (P : Program) (gf : Nat) (cb : List Value) (B : HP) {α : Type} (arg : α → Value) (cf : α → α → Int) : Prop :=
  ∀ (W : World) (S : Piece), le S (heapOf W) → B S → ∀ x y : α, Calls P gf (#[arg x, arg y] ++ cb.toArray) W fun e w' => e = .returned (.int .i64 (cf x y)) ∧ ∃ q os', w' = grow (W.drewN q) os'
theorem sortK_spec {α : Type} [Inhabited α] (La : SlLaysF0.n6 P ρ) {k E : Nat} {enc : α → List Value} {cf : α → α → Int} {gf : Nat} {cb : List Value} {B : HP} {xs : List α} {a : Option Addr} {m0 c0 : Nat} (aE : ∀ w, (isAgg (ρ.t 24)).run P w = .ok true w) (zE : ∀ w, (Go.sizeOf (ρ.t 24)).run P w = .ok k w) (he : EncOk k enc) (hO : SWO (ltOf cf))
    (eg : ∀ args w, (callFunc gf args).run P w = .ok (.enter gf args) w) (hcmp : CmpB P gf cb B (fun x => .agg (enc x).toArray) cf) (h0 : 0 < xs.length) (hn : xs.length ≤ 68719476736) :
    Spec P g (ρ.f 6) [.slice a m0 c0, .func (.func gf) #[] cb.toArray] [Sl E k enc (.slice a m0 c0) xs, B] fun K R => ∀ ys, ys.Perm xs → ys.Pairwise (fun a b => ltOf cf b a = false) → K (.tuple #[]) (Sl E k enc (.slice a m0 c0) ys :: B :: R) := by
  intro R K w hw hT
  obtain ⟨S1, S2, hd, l1, l2, hOwn, hR⟩ := hw.heap
  rcases hOwn with ⟨hz, _⟩ | ⟨b, o, c, l, hu, hnc, hc, hS, hl, hcs⟩
  · omega
  · obtain ⟨S3, S4, hd', l3, l4, hB, hR'⟩ := hR
    simp only [Value.slice.injEq] at hu
    obtain ⟨rfl, rfl, rfl⟩ := hu
    have hb := l1 _ _ hS
    have hbl : b < w.heap.size := by
      rcases Nat.lt_or_ge b w.heap.size with h' | h'
      · exact h'
      · simp [heapOf, Array.getElem?_eq_none h'] at hb
    have hnz : xs.length * k ≤ c0 * k := Nat.mul_le_mul_right k hnc
    have hH : HoldsK enc k w b o xs.toArray := holds_of id hb (by rw [size_flatK]; simp; omega) (by rw [size_flatK, flatK_list he]; simp [hcs])
    refine (AnyQ.slices_SortFunc La k aE zE enc he.len (fun x v hv => ones_ok (he.one x) v hv) cf hO gf cb.toArray b o c0 xs.toArray w eg (fun m os dk _ x y => hcmp _ S3 (heap_row id hd l2 hS l3) hB x y) hH hbl (by simp; omega)).mono ?_
    rintro e w' ⟨he', d', n, os, hp, hs, rfl⟩
    obtain ⟨p1, p2⟩ := perm_list hp
    have hlen : d'.toList.length = xs.length := by rw [p2.length_eq]
    refine ⟨_, _, he', hT d'.toList (by simpa using p2) (sorted_list p1 hs), ?_⟩
    unfold Sl
    rw [hlen]
    refine sat_row (β := Value) id hw hd l1 l2 rfl hnc hc hS hl (by rw [size_flatK, p1]; simp) ?_ ⟨S3, S4, hd', l3, l4, hB, hR'⟩
    rw [List.map_id, flatK_list he]
theorem sort1_spec {α : Type} [Inhabited α] (La : SlLaysF.n6 P ρ) {E : Nat} {enc : α → Value} {cf : α → α → Int} {gf : Nat} {cb : List Value} {B : HP} {xs : List α} {a : Option Addr} {m0 c0 : Nat} (h1 : ∀ x, (enc x).oneCell' = true) (hO : SWO (ltOf cf))
    (eg : ∀ args w, (callFunc gf args).run P w = .ok (.enter gf args) w) (hcmp : CmpB P gf cb B enc cf) (h0 : 0 < xs.length) (hn : xs.length ≤ 68719476736) :
    Spec P g (ρ.f 6) [.slice a m0 c0, .func (.func gf) #[] cb.toArray] [Sl E 1 (fun x => [enc x]) (.slice a m0 c0) xs, B] fun K R => ∀ ys, ys.Perm xs → ys.Pairwise (fun a b => ltOf cf b a = false) → K (.tuple #[]) (Sl E 1 (fun x => [enc x]) (.slice a m0 c0) ys :: B :: R) := by
  intro R K w hw hT
  obtain ⟨S1, S2, hd, l1, l2, hOwn, hR⟩ := hw.heap
  rcases hOwn with ⟨hz, _⟩ | ⟨b, o, c, l, hu, hnc, hc, hS, hl, hcs⟩
  · omega
  · obtain ⟨S3, S4, hd', l3, l4, hB, hR'⟩ := hR
    simp only [Value.slice.injEq] at hu
    obtain ⟨rfl, rfl, rfl⟩ := hu
    have hb := l1 _ _ hS
    have hbl : b < w.heap.size := by
      rcases Nat.lt_or_ge b w.heap.size with h' | h'
      · exact h'
      · simp [heapOf, Array.getElem?_eq_none h'] at hb
    have hfm : ∀ ys : List α, ys.flatMap (fun x => [enc x]) = ys.map enc := fun ys => by induction ys <;> simp_all
    have hH : Holds enc w b o xs.toArray := holds_of enc hb (by simp; omega) (by simp [← hfm]; rw [hcs]; simp)
    refine (Any.slices_SortFunc La enc h1 cf hO gf cb.toArray b o c0 xs.toArray w eg (fun m os dk _ x y => hcmp _ S3 (heap_row enc hd l2 hS l3) hB x y) hH hbl (by simp; omega)).mono ?_
    rintro e w' ⟨he', d', n, os, hp, hs, rfl⟩
    obtain ⟨p1, p2⟩ := perm_list hp
    have hlen : d'.toList.length = xs.length := by rw [p2.length_eq]
    refine ⟨_, _, he', hT d'.toList (by simpa using p2) (sorted_list p1 hs), ?_⟩
    unfold Sl
    rw [hlen]
    refine sat_row enc hw hd l1 l2 rfl hnc hc hS hl (by rw [p1]; simp) (hfm _).symm ⟨S3, S4, hd', l3, l4, hB, hR'⟩
theorem spec_unpu {ι : Type} {f : FuncId} {args : List Value} {A : HP} {v : Value} {φ : ι → Prop} {B : ι → HP} (h : Spec P g f args [A, pu True] fun K R => ∀ y, φ y → K v (B y :: pu True :: R)) : Spec P g f args [A] fun K R => ∀ y, φ y → K v (B y :: R) := fun R K w hw hT => by
  refine (h R (fun v M => ∃ M', K v M' ∧ ∀ S, stars M S → stars M' S) w (hw.conv fun S h => stars_cons (fun S h => pu_stars trivial h) h) fun y hy => ⟨_, hT y hy, fun S h => stars_cons (fun S h => stars_tail h) h⟩).mono ?_
  rintro e w' ⟨v', M, rfl, ⟨M', k1, k2⟩, hs⟩
  exact ⟨v', M', rfl, k1, hs.conv k2⟩
theorem spec_imp {ι : Type} {f : FuncId} {args : List Value} {Pre : List HP} {v : Value} {φ ψ : ι → Prop} {B : ι → HP} (h : Spec P g f args Pre fun K R => ∀ y, φ y → K v (B y :: R)) (hi : ∀ y, φ y → ψ y) : Spec P g f args Pre fun K R => ∀ y, ψ y → K v (B y :: R) := fun R K w hw hT => h R K w hw fun y hy => hT y (hi y hy)
theorem own_zero {E z : Nat} {a : Option Addr} {m c : Nat} {cs : List Value} {S : Piece} (h : Own E z (.slice a m c) 0 cs S) : m = 0 := by
  rcases h with ⟨_, _, a', e⟩ | ⟨_, _, _, _, e, _⟩ <;> (simp only [Value.slice.injEq] at e; obtain ⟨_, e, _⟩ := e; exact e)
end
end Go.SL
/- The library's sort at uint32: rules for the array, and the plain model's steps. -/
set_option linter.unusedSimpArgs false
set_option linter.unusedVariables false
set_option linter.unusedSectionVars false
namespace Go.SL
open Go Go.Proofs Go.Sort
def u32C (n : UInt32) : List Value := [.int .u32 n.toNat]
theorem u32E : EncOk 1 u32C := ⟨fun _ => rfl, fun _ => rfl⟩
def lt32 (x y : UInt32) : Bool := decide (x < y)
theorem swo32 : SWO lt32 where
  irrefl x := by simp [lt32, UInt32.lt_iff_toNat_lt]
  trans x y z h1 h2 := by simp only [lt32, decide_eq_true_eq, UInt32.lt_iff_toNat_lt] at *; omega
  ntrans x y z h1 h2 := by simp only [lt32, decide_eq_false_iff_not, UInt32.lt_iff_toNat_lt] at *; omega
theorem swp_size {α : Type} [Inhabited α] (d : Array α) (i j : Nat) : (swp d i j).size = d.size := by simp [swp]
section
variable {P : Program} {r : Option Nat} {g : World} {Γ : Env} {L M : List HP} {dst : Option Tmp} {t : TypeId} {pos : String} {aft : Array Edge} {gd : Option (Nat × Bool)} {x y : Operand} {xt yt : TypeId}
theorem ea_ia {i : Operand} {s E z j : Nat} {u : Value} {d : Array UInt32} (hs : slOf P s = some (E, 1, z)) (hx : ev Γ x = some u := by rfl) (hi : ev Γ i = some (.int .i64 (j : Nat)) := by rfl) (hp : Pick L (Sl E 1 u32C u d.toList) M := by repeat first | exact .z | apply Pick.s)
    (hj : j < d.size := by first | omega | (simp only [swp_size, Array.size_setIfInBounds]; omega)) : EO P g ⟨dst, .indexAddr s x i, t, pos, aft, gd⟩ Γ L (elA u (j * 1)) :=
  el_ia (xs := d.toList) (enc := u32C) hs sl_rl (by rw [Array.length_toList]; exact hj) hx hi hp
theorem get_arr {d : Array UInt32} {j : Nat} (h : j < d.size) : d.toList[j]? = some d[j]! := by
  rw [Array.getElem?_toList, Array.getElem?_eq_getElem h, getElem!_pos d j h]
theorem ea_load {T E j : Nat} {u : Value} {d : Array UInt32} (ht : aggOf P T = some none) (hx : ev Γ x = some (elA u (j * 1)) := by rfl) (hp : Pick L (Sl E 1 u32C u d.toList) M := by repeat first | exact .z | apply Pick.s)
    (hj : j < d.size := by first | omega | (simp only [swp_size, Array.size_setIfInBounds]; omega)) : EO P g ⟨dst, .load T x, t, pos, aft, gd⟩ Γ L (.int .u32 (d[j]!).toNat) :=
  el_load0 (xs := d.toList) (a := d[j]!) ht u32E sl_rl (get_arr hj) (by decide) hx rfl hp
theorem ha_store {T E j : Nat} {v : Operand} {u : Value} {d : Array UInt32} {a : UInt32} {N : List HP} {K : Value → List HP → Prop} (hT : szOf P T = some 1) (hK : K (.tuple #[]) N) (hx : ev Γ x = some (elA u (j * 1)) := by rfl) (hv : ev Γ v = some (.int .u32 a.toNat) := by rfl)
    (hp : Put L (Sl E 1 u32C u d.toList) (Sl E 1 u32C u (d.setIfInBounds j a).toList) N := by repeat first | exact .z | apply Put.s) (hj : j < d.size := by first | omega | (simp only [swp_size, Array.size_setIfInBounds]; omega)) : HO P r g ⟨dst, .store T x v, t, pos, aft, gd⟩ Γ L K :=
  hl_store (xs := d.toList) (enc := u32C) (E := E) a hT u32E (by rw [Array.length_toList]; exact hj) hK (by decide) hx hv rfl (by rw [← Array.toList_setIfInBounds]; exact hp)
theorem e_addN {a b : Nat} (hx : ev Γ x = some (.int .i64 a) := by rfl) (hy : ev Γ y = some (.int .i64 b) := by rfl) (h : a + b ≤ 4611686018427387904 := by omega) : EO P g ⟨dst, .binOp .add xt x y yt, t, pos, aft, gd⟩ Γ L (.int .i64 ((a + b : Nat) : Int)) :=
  e_add hx hy (by rw [w_i64 (by omega) (by omega)]; omega)
theorem e_subN {a b : Nat} (hx : ev Γ x = some (.int .i64 a) := by rfl) (hy : ev Γ y = some (.int .i64 b) := by rfl) (hle : b ≤ a := by omega) (h : a ≤ 4611686018427387904 := by omega) : EO P g ⟨dst, .binOp .sub xt x y yt, t, pos, aft, gd⟩ Γ L (.int .i64 ((a - b : Nat) : Int)) :=
  e_sub hx hy (by rw [w_i64 (by omega) (by omega)]; omega)
theorem e_mulN {a b : Nat} (hx : ev Γ x = some (.int .i64 a) := by rfl) (hy : ev Γ y = some (.int .i64 b) := by rfl) (h : a * b ≤ 4611686018427387904 := by omega) : EO P g ⟨dst, .binOp .mul xt x y yt, t, pos, aft, gd⟩ Γ L (.int .i64 ((a * b : Nat) : Int)) :=
  e_mul hx hy (by rw [← Int.natCast_mul]; exact w_i64 (by omega) (by omega))
theorem e_quoN {a b : Nat} (hx : ev Γ x = some (.int .i64 a) := by rfl) (hy : ev Γ y = some (.int .i64 b) := by rfl) (hb : 0 < b := by decide) (h : a ≤ 4611686018427387904 := by omega) : EO P g ⟨dst, .binOp .quo xt x y yt, t, pos, aft, gd⟩ Γ L (.int .i64 ((a / b : Nat) : Int)) :=
  e_quo hx hy (by omega) (by
    have h2 := Nat.div_le_self a b
    rw [Int.tdiv_eq_ediv_of_nonneg (by omega), ← Int.natCast_ediv]
    generalize a / b = q at h2 ⊢
    exact w_i64 (by omega) (by omega))
end
/-! the model's steps -/
section
variable {d : Array UInt32} {a b i j : Nat}
abbrev lt := lt32
theorem ins_step (h1 : a < j) (h2 : lt32 d[j]! d[j - 1]! = true) : insInner lt32 a j d = insInner lt32 a (j - 1) (swp d j (j - 1)) := by
  obtain ⟨k, rfl⟩ : ∃ k, j = k + 1 := ⟨j - 1, by omega⟩
  rw [Nat.add_sub_cancel] at h2 ⊢
  rw [insInner, if_pos (by simp [h2]; omega)]
theorem ins_stop (h : a < j → lt32 d[j]! d[j - 1]! = false) : insInner lt32 a j d = d := by
  cases j with
  | zero => rfl
  | succ k =>
    rw [Nat.add_sub_cancel] at h
    rw [insInner, if_neg]
    intro hh
    simp only [Bool.and_eq_true, decide_eq_true_eq] at hh
    rw [h hh.1] at hh; cases hh.2
theorem insO_step (h : i < b) : insOuter lt32 a b i d = insOuter lt32 a b (i + 1) (insInner lt32 a i d) := by rw [insOuter, if_pos h]
theorem insO_stop (h : ¬ i < b) : insOuter lt32 a b i d = d := by rw [insOuter, if_neg h]
theorem sd_stop {hi first root : Nat} (h : 2 * root + 1 ≥ hi) : siftDown lt32 hi first root d = d := by rw [siftDown, dif_pos h]
theorem sd_r {hi first root : Nat} (h : ¬ 2 * root + 1 ≥ hi) (h2 : 2 * root + 1 + 1 < hi) (h3 : lt32 d[first + (2 * root + 1)]! d[first + (2 * root + 1) + 1]! = true) :
    siftDown lt32 hi first root d = if lt32 d[first + root]! d[first + (2 * root + 1 + 1)]! = true then siftDown lt32 hi first (2 * root + 1 + 1) (swp d (first + root) (first + (2 * root + 1 + 1))) else d := by
  rw [siftDown, dif_neg h, if_pos (by simp [h2, h3])]
  have h4 : 2 * root + 2 < hi := h2
  cases e : lt32 d[first + root]! d[first + (2 * root + 1 + 1)]! with
  | true =>
    rw [if_neg (by simp), dif_pos h4, if_pos rfl]
  | false =>
    rw [if_pos (by simp), if_neg (by simp)]
theorem sd_l {hi first root : Nat} (h : ¬ 2 * root + 1 ≥ hi) (h3 : 2 * root + 1 + 1 < hi → lt32 d[first + (2 * root + 1)]! d[first + (2 * root + 1) + 1]! = false) :
    siftDown lt32 hi first root d = if lt32 d[first + root]! d[first + (2 * root + 1)]! = true then siftDown lt32 hi first (2 * root + 1) (swp d (first + root) (first + (2 * root + 1))) else d := by
  rw [siftDown, dif_neg h, if_neg (by intro hh; simp only [Bool.and_eq_true, decide_eq_true_eq] at hh; rw [h3 hh.1] at hh; cases hh.2)]
  cases e : lt32 d[first + root]! d[first + (2 * root + 1)]! <;> simp
theorem sd_size {hi first : Nat} : ∀ (n root : Nat) (d : Array UInt32), hi - root ≤ n → (siftDown lt32 hi first root d).size = d.size
  | 0, root, d, h => by rw [sd_stop (by omega)]
  | n + 1, root, d, h => by
    by_cases h1 : 2 * root + 1 ≥ hi
    · rw [sd_stop h1]
    · by_cases h2 : 2 * root + 1 + 1 < hi ∧ lt32 d[first + (2 * root + 1)]! d[first + (2 * root + 1) + 1]! = true
      · rw [sd_r h1 h2.1 h2.2]
        split
        · rw [sd_size n _ _ (by omega), swp_size]
        · rfl
      · rw [sd_l h1 (fun h => by cases e : lt32 d[first + (2 * root + 1)]! d[first + (2 * root + 1) + 1]! with
          | true => exact absurd ⟨h, e⟩ h2
          | false => rfl)]
        split
        · rw [sd_size n _ _ (by omega), swp_size]
        · rfl
theorem sdn_size {hi first root : Nat} {d : Array UInt32} : (siftDown lt32 hi first root d).size = d.size := sd_size _ _ _ (Nat.le_refl _)
theorem rev_step (h : i < j) : reverseLoop i j d = reverseLoop (i + 1) (j - 1) (swp d i j) := by rw [reverseLoop, if_pos h]
theorem rev_stop (h : ¬ i < j) : reverseLoop i j d = d := by rw [reverseLoop, if_neg h]
theorem nt {b : Bool} (h : (!b) = true) : b = false := by cases b <;> simp_all
theorem nf {b : Bool} (h : (!b) = false) : b = true := by cases b <;> simp_all
theorem ord_t {sw : Nat} (h : lt32 d[b]! d[a]! = true) : order2 lt32 d a b sw = (b, a, sw + 1) := by rw [order2, if_pos h]
theorem ord_f {sw : Nat} (h : lt32 d[b]! d[a]! = false) : order2 lt32 d a b sw = (a, b, sw) := by rw [order2, if_neg (by rw [h]; simp)]
theorem ord_lt {n sw : Nat} (ha : a < n) (hb : b < n) : (order2 lt32 d a b sw).1 < n ∧ (order2 lt32 d a b sw).2.1 < n ∧ (order2 lt32 d a b sw).2.2 ≤ sw + 1 := by
  cases h : lt32 d[b]! d[a]! with
  | true => rw [ord_t h]; exact ⟨hb, ha, Nat.le_refl _⟩
  | false => rw [ord_f h]; exact ⟨ha, hb, Nat.le_succ _⟩
theorem med_lt {n sw c : Nat} (ha : a < n) (hb : b < n) (hc : c < n) : (median lt32 d a b c sw).1 < n ∧ (median lt32 d a b c sw).2 ≤ sw + 3 := by
  obtain ⟨h1, h2, h3⟩ := ord_lt (d := d) (sw := sw) ha hb
  obtain ⟨h4, h5, h6⟩ := ord_lt (d := d) (sw := (order2 lt32 d a b sw).2.2) h2 hc
  obtain ⟨h7, h8, h9⟩ := ord_lt (d := d) (sw := (order2 lt32 d (order2 lt32 d a b sw).2.1 c (order2 lt32 d a b sw).2.2).2.2) h1 h4
  exact ⟨h8, by show (order2 lt32 d _ _ _).2.2 ≤ _; omega⟩
def cpH (n : Nat) : Hint := if n = 0 then .increasing else if n = 12 then .decreasing else .unknown
def hv : Hint → Nat
  | .unknown => 0
  | .increasing => 1
  | .decreasing => 2
theorem cp1 (h : ¬ b - a ≥ 8) : choosePivot lt32 d a b = (a + (b - a) / 4 * 2, cpH 0) := by unfold choosePivot; simp only [h, if_false]; rfl
theorem cp2 (h : b - a ≥ 8) (h2 : ¬ b - a ≥ 50) : choosePivot lt32 d a b = ((median lt32 d (a + (b - a) / 4 * 1) (a + (b - a) / 4 * 2) (a + (b - a) / 4 * 3) 0).1, cpH (median lt32 d (a + (b - a) / 4 * 1) (a + (b - a) / 4 * 2) (a + (b - a) / 4 * 3) 0).2) := by unfold choosePivot; simp only [h, h2, if_true, if_false]; rfl
theorem cp3 (h : b - a ≥ 8) (h2 : b - a ≥ 50) {r1 r2 r3 r4 : Nat × Nat} (e1 : medianAdjacent lt32 d (a + (b - a) / 4 * 1) 0 = r1) (e2 : medianAdjacent lt32 d (a + (b - a) / 4 * 2) r1.2 = r2) (e3 : medianAdjacent lt32 d (a + (b - a) / 4 * 3) r2.2 = r3) (e4 : median lt32 d r1.1 r2.1 r3.1 r3.2 = r4) : choosePivot lt32 d a b = (r4.1, cpH r4.2) := by
  subst e1 e2 e3 e4
  unfold choosePivot; simp only [h, h2, if_true]; rfl
theorem up_step {p : UInt32 → Bool} (h : i ≤ j) (h2 : p d[i]! = true) : scanUp p d j i = scanUp p d j (i + 1) := by rw [scanUp, if_pos (by simp [h, h2])]
theorem up_stop {p : UInt32 → Bool} (h : i ≤ j → p d[i]! = false) : scanUp p d j i = i := by
  rw [scanUp, if_neg]
  intro hh
  simp only [Bool.and_eq_true, decide_eq_true_eq] at hh
  rw [h hh.1] at hh; cases hh.2
theorem down_step {p : UInt32 → Bool} (h0 : 1 ≤ j) (h : i ≤ j) (h2 : p d[j]! = true) : scanDown p d i j = scanDown p d i (j - 1) := by
  obtain ⟨k, rfl⟩ : ∃ k, j = k + 1 := ⟨j - 1, by omega⟩
  rw [scanDown, if_pos (by simp [h, h2])]; rfl
theorem down_stop {p : UInt32 → Bool} (h : i ≤ j → p d[j]! = false) : scanDown p d i j = j := by
  cases j with
  | zero => rfl
  | succ k =>
    rw [scanDown, if_neg]
    intro hh
    simp only [Bool.and_eq_true, decide_eq_true_eq] at hh
    rw [h hh.1] at hh; cases hh.2
theorem part_stop {i2 j2 : Nat} (e1 : scanUp (fun x => lt32 x d[a]!) d j i = i2) (e2 : scanDown (fun x => !lt32 x d[a]!) d i2 j = j2) (h : i2 > j2) : partLoop lt32 a i j d = (j2, d) := by
  subst e1 e2; rw [partLoop]; simp only [h, if_true]
theorem part_step {i2 j2 : Nat} (e1 : scanUp (fun x => lt32 x d[a]!) d j i = i2) (e2 : scanDown (fun x => !lt32 x d[a]!) d i2 j = j2) (h : ¬ i2 > j2) (hg : (j2 - 1) + 1 - (i2 + 1) < j + 1 - i) : partLoop lt32 a i j d = partLoop lt32 a (i2 + 1) (j2 - 1) (swp d i2 j2) := by
  subst e1 e2; rw [partLoop]; simp only [h, if_false]; rw [dif_pos hg]
theorem parte_stop {i2 j2 : Nat} (e1 : scanUp (fun x => !lt32 d[a]! x) d j i = i2) (e2 : scanDown (fun x => lt32 d[a]! x) d i2 j = j2) (h : i2 > j2) : partEqLoop lt32 a i j d = (i2, d) := by
  subst e1 e2; rw [partEqLoop]; simp only [h, if_true]
theorem parte_step {i2 j2 : Nat} (e1 : scanUp (fun x => !lt32 d[a]! x) d j i = i2) (e2 : scanDown (fun x => lt32 d[a]! x) d i2 j = j2) (h : ¬ i2 > j2) (hg : (j2 - 1) + 1 - (i2 + 1) < j + 1 - i) : partEqLoop lt32 a i j d = partEqLoop lt32 a (i2 + 1) (j2 - 1) (swp d i2 j2) := by
  subst e1 e2; rw [partEqLoop]; simp only [h, if_false]; rw [dif_pos hg]
theorem partition_t {pv i1 j1 : Nat} {d0 : Array UInt32} (e0 : swp d a pv = d0) (e1 : scanUp (fun x => lt32 x d0[a]!) d0 (b - 1) (a + 1) = i1) (e2 : scanDown (fun x => !lt32 x d0[a]!) d0 i1 (b - 1) = j1) (h : i1 > j1) : partition lt32 d a b pv = (j1, true, swp d0 j1 a) := by
  subst e0 e1 e2; unfold partition; simp only [h, if_true]
theorem partition_f {pv i1 j1 : Nat} {d0 : Array UInt32} (e0 : swp d a pv = d0) (e1 : scanUp (fun x => lt32 x d0[a]!) d0 (b - 1) (a + 1) = i1) (e2 : scanDown (fun x => !lt32 x d0[a]!) d0 i1 (b - 1) = j1) (h : ¬ i1 > j1) {r : Nat × Array UInt32} (e3 : partLoop lt32 a (i1 + 1) (j1 - 1) (swp d0 i1 j1) = r) : partition lt32 d a b pv = (r.1, false, swp r.2 r.1 a) := by
  subst e0 e1 e2 e3; unfold partition; simp only [h, if_false]
theorem sorted_step (h : i < b) (h2 : lt32 d[i]! d[i - 1]! = false) : scanSorted lt32 d b i = scanSorted lt32 d b (i + 1) := by rw [scanSorted, if_pos (by simp [h, h2])]
theorem sorted_stop (h : i < b → lt32 d[i]! d[i - 1]! = true) : scanSorted lt32 d b i = i := by
  rw [scanSorted, if_neg]
  intro hh
  simp only [Bool.and_eq_true, decide_eq_true_eq, Bool.not_eq_true'] at hh
  rw [h hh.1] at hh; cases hh.2
theorem sdown_step (h : 1 ≤ j) (h2 : lt32 d[j]! d[j - 1]! = true) : shiftDown lt32 j d = shiftDown lt32 (j - 1) (swp d j (j - 1)) := by
  obtain ⟨k, rfl⟩ : ∃ k, j = k + 1 := ⟨j - 1, by omega⟩
  rw [Nat.add_sub_cancel] at h2 ⊢
  rw [shiftDown, if_neg (by simp [h2])]
theorem sdown_stop (h : 1 ≤ j → lt32 d[j]! d[j - 1]! = false) : shiftDown lt32 j d = d := by
  cases j with
  | zero => rfl
  | succ k =>
    have := h (by omega)
    rw [Nat.add_sub_cancel] at this
    rw [shiftDown, if_pos (by simp [this])]
theorem sup_step (h : j < b) (h2 : lt32 d[j]! d[j - 1]! = true) : shiftUp lt32 b j d = shiftUp lt32 b (j + 1) (swp d j (j - 1)) := by rw [shiftUp, if_pos h, if_neg (by simp [h2])]
theorem sup_stop (h : j < b → lt32 d[j]! d[j - 1]! = false) : shiftUp lt32 b j d = d := by
  rw [shiftUp]
  split
  · rename_i hb; rw [if_pos (by simp [h hb])]
  · rfl
theorem pins_0 : partialIns lt32 a b 0 i d = (d, false) := rfl
theorem pins_t {s i2 : Nat} (e : scanSorted lt32 d b i = i2) (h : i2 = b) : partialIns lt32 a b (s + 1) i d = (d, true) := by subst e; rw [partialIns]; simp only [h, if_true]
theorem pins_f {s i2 : Nat} (e : scanSorted lt32 d b i = i2) (h : ¬ i2 = b) (h2 : b - a < 50) : partialIns lt32 a b (s + 1) i d = (d, false) := by subst e; rw [partialIns]; simp only [h, h2, if_true, if_false]
theorem pins_s {s i2 : Nat} {d2 d3 : Array UInt32} (e : scanSorted lt32 d b i = i2) (h : ¬ i2 = b) (h2 : ¬ b - a < 50) (e2 : (if i2 - a ≥ 2 then shiftDown lt32 (i2 - 1) (swp d i2 (i2 - 1)) else swp d i2 (i2 - 1)) = d2) (e3 : (if b - i2 ≥ 2 then shiftUp lt32 b (i2 + 1) d2 else d2) = d3) :
    partialIns lt32 a b (s + 1) i d = partialIns lt32 a b s i2 d3 := by subst e e2 e3; rw [partialIns]; simp only [h, h2, if_false]
end
/-! words -/
theorem wu64 (n : Nat) : IntKind.u64.wrap (n : Int) = ((UInt64.ofNat n).toNat : Int) := by simp [IntKind.wrap, IntKind.bits, IntKind.signed]
theorem bv64 (a : UInt64) : BitVec.ofInt IntKind.u64.bits (a.toNat : Int) = a.toBitVec := by
  show BitVec.ofInt 64 _ = _
  apply BitVec.eq_of_toNat_eq; simp
theorem back64 (x : BitVec 64) : IntKind.u64.wrap (x.toNat : Int) = ((⟨x⟩ : UInt64).toNat : Int) := by
  rw [wu64]; congr 1; show (UInt64.ofNat x.toNat).toNat = x.toNat; simp
theorem bxor64 (a b : UInt64) : bits .xor .u64 (a.toNat : Int) (b.toNat : Int) = ((a ^^^ b).toNat : Int) := by unfold bits; simp only [bv64]; exact back64 _
theorem band64 (a b : UInt64) : bits .and .u64 (a.toNat : Int) (b.toNat : Int) = ((a &&& b).toNat : Int) := by unfold bits; simp only [bv64]; exact back64 _
section
variable {P : Program} {r : Option Nat} {g : World} {Γ : Env} {L M : List HP} {dst : Option Tmp} {t : TypeId} {pos : String} {aft : Array Edge} {gd : Option (Nat × Bool)} {x y : Operand} {xt yt : TypeId} {a b : UInt64}
theorem e_xor64 (hx : ev Γ x = some (.int .u64 a.toNat) := by rfl) (hy : ev Γ y = some (.int .u64 b.toNat) := by rfl) : EO P g ⟨dst, .binOp .xor xt x y yt, t, pos, aft, gd⟩ Γ L (.int .u64 (a ^^^ b).toNat) := e_bits (by simp) hx hy (bxor64 a b)
theorem e_and64 {m : Nat} (hm : m < 18446744073709551616) (hx : ev Γ x = some (.int .u64 a.toNat) := by rfl) (hy : ev Γ y = some (.int .u64 (m : Nat)) := by rfl) : EO P g ⟨dst, .binOp .and xt x y yt, t, pos, aft, gd⟩ Γ L (.int .u64 ((a.toNat &&& m : Nat) : Int)) :=
  e_bits (by simp) hx hy (by
    have h : (UInt64.ofNat m).toNat = m := by rw [UInt64.toNat_ofNat']; exact Nat.mod_eq_of_lt hm
    rw [← h, band64, UInt64.toNat_and])
theorem e_shl64 {k' : IntKind} {m : UInt64} (hm : m.toNat < 64) (hx : ev Γ x = some (.int .u64 a.toNat) := by rfl) (hy : ev Γ y = some (.int k' m.toNat) := by rfl) : EO P g ⟨dst, .binOp .shl xt x y yt, t, pos, aft, gd⟩ Γ L (.int .u64 (a <<< m).toNat) :=
  e_shl hx hy (by omega) (by simp [IntKind.bits]; omega) (by
    rw [UInt64.toNat_shiftLeft, Nat.mod_eq_of_lt hm, Nat.shiftLeft_eq]; simp [IntKind.wrap, IntKind.bits, IntKind.signed])
theorem e_shr64 {k' : IntKind} {m : UInt64} (hm : m.toNat < 64) (hx : ev Γ x = some (.int .u64 a.toNat) := by rfl) (hy : ev Γ y = some (.int k' m.toNat) := by rfl) : EO P g ⟨dst, .binOp .shr xt x y yt, t, pos, aft, gd⟩ Γ L (.int .u64 (a >>> m).toNat) :=
  e_shr hx hy (by omega) (by simp [IntKind.bits]; omega) (by rw [UInt64.toNat_shiftRight, Nat.mod_eq_of_lt hm, Nat.shiftRight_eq_div_pow]; simp)
end
theorem tab_all (s : ByteArray) (h : ((List.range 256).all fun i => s[i]? == some (UInt8.ofNat (bitsLen i))) = true) {i : Nat} (hi : i < 256) : s[i]? = some (UInt8.ofNat (bitsLen i)) := by
  have := List.all_eq_true.1 h i (List.mem_range.2 hi)
  simpa using this
theorem log2_shr : ∀ (k x : Nat), 2 ^ k ≤ x → Nat.log2 x = k + Nat.log2 (x / 2 ^ k)
  | 0, x, _ => by simp
  | k + 1, x, h => by
    have h2 : 2 ≤ x := Nat.le_trans (by rw [Nat.pow_succ]; have := Nat.one_le_two_pow (n := k); omega) h
    have h3 : 2 ^ k ≤ x / 2 := by rw [Nat.pow_succ] at h; omega
    rw [Nat.log2_def, if_pos h2, log2_shr k (x / 2) h3, Nat.div_div_eq_div_mul, Nat.pow_succ, Nat.mul_comm 2]
    omega
theorem bitsLen_shr (k x : Nat) (h : 2 ^ k ≤ x) : bitsLen x = k + bitsLen (x / 2 ^ k) := by
  have h0 : 0 < 2 ^ k := Nat.two_pow_pos k
  have h1 : 0 < x / 2 ^ k := Nat.div_pos h h0
  unfold bitsLen
  rw [if_neg (by omega), if_neg (by omega), log2_shr k x h]; omega
theorem bitsLen_lt {k x : Nat} (h : x < 2 ^ k) : bitsLen x ≤ k := by
  unfold bitsLen
  split
  · exact Nat.zero_le _
  · rename_i h0; have := (Nat.log2_lt h0).2 h; omega
theorem bitsLen_pow {x : Nat} (h : 0 < x) : 2 ^ bitsLen x ≤ 2 * x := by
  unfold bitsLen
  rw [if_neg (by omega), Nat.pow_succ]
  have := Nat.log2_self_le (n := x) (by omega)
  omega
section
variable {d : Array UInt32} {a b i j : Nat}
/-- So many rounds of breakPatterns. -/
def brk (a n m : Nat) (st : UInt64 × Array UInt32) (i : Nat) : Nat → UInt64 × Array UInt32
  | 0 => st
  | k + 1 => breakStep a n m (brk a n m st i k) (i + k)
theorem brk_eq (h : b - a ≥ 8) : breakPatterns d a b = (brk a (b - a) (2 ^ bitsLen (b - a)) (UInt64.ofNat (b - a), d) (a + (b - a) / 4 * 2 - 1) 3).2 := by
  unfold breakPatterns
  simp only [h, if_true, Nat.shiftLeft_eq, Nat.one_mul]; rfl
theorem brk_no (h : ¬ b - a ≥ 8) : breakPatterns d a b = d := by unfold breakPatterns; simp only [h, if_false]
theorem sort_done {xs : List UInt32} {d' : Array UInt32} (p1 : PermIn 0 xs.length xs.toArray d') (p2 : SortedIn lt32 0 xs.length d') : d'.toList.Perm xs ∧ d'.toList.Pairwise fun x y => x ≤ y := by
  have hsz : d'.size = xs.length := by rw [p1.1]; simp
  constructor
  · have h := p1.2.2
    rw [← hsz, Array.extract_size] at h
    have e : (xs.toArray.extract 0 d'.size).toList = xs := by rw [hsz]; simp
    rw [e] at h; exact h
  · rw [List.pairwise_iff_getElem]
    intro i j hi hj hij
    rw [Array.length_toList] at hi hj
    have := p2 i j (Nat.zero_le _) hij (by omega)
    rw [getElem!_pos d' i (by omega), getElem!_pos d' j (by omega)] at this
    simp only [Array.getElem_toList]
    simp only [lt32, decide_eq_false_iff_not] at this
    exact UInt32.not_lt.1 this
theorem sorted_eq : ∀ {a b : List UInt32}, a.Perm b → (a.Pairwise fun x y => x ≤ y) → (b.Pairwise fun x y => x ≤ y) → a = b
  | [], b, h, _, _ => (List.nil_perm.1 h).symm
  | x :: a, [], h, _, _ => by have := h.length_eq; simp at this
  | x :: a, y :: b, h, h1, h2 => by
    obtain ⟨p1, p2⟩ := List.pairwise_cons.1 h1
    obtain ⟨q1, q2⟩ := List.pairwise_cons.1 h2
    have e : x = y := by
      have hx : x ∈ y :: b := h.mem_iff.1 (by simp)
      have hy : y ∈ x :: a := h.mem_iff.2 (by simp)
      rcases List.mem_cons.1 hx with hx | hx
      · exact hx
      · rcases List.mem_cons.1 hy with hy | hy
        · exact hy.symm
        · exact UInt32.le_antisymm (p1 y hy) (q1 x hx)
    subst e
    rw [sorted_eq ((List.perm_cons x).1 h) p2 q2]
theorem sl_map {α β : Type} {E z : Nat} {enc : β → List Value} {f : α → β} {u : Value} {xs : List α} {S : Piece} (h : Sl E z (fun x => enc (f x)) u xs S) : Sl E z enc u (xs.map f) S := by
  unfold Sl at h ⊢
  rw [List.length_map, List.flatMap_map]; exact h
end
end Go.SL

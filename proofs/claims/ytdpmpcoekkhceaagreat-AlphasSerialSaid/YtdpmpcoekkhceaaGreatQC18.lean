/- VT VU: rules and walks, several texts in one. -/
import Derived.Test.YtdpmpcoekkhceaaGreatQC17
import Derived.Test.YtdpmpcoekkhceaaGreatProg
import Derived.KernelRfl
set_option linter.unusedSimpArgs false
set_option linter.unusedVariables false
namespace Go.SL.VT
open Go Go.Proofs Go.SL
theorem a125 : aggOf Tryz.prog 125 = some none := by kernel_rfl
theorem a200 : aggOf Tryz.prog 200 = some none := by kernel_rfl
theorem a205 : aggOf Tryz.prog 205 = some (some 3) := by kernel_rfl
theorem a22 : aggOf Tryz.prog 22 = some none := by kernel_rfl
theorem a4 : aggOf Tryz.prog 4 = some none := by kernel_rfl
theorem a69 : aggOf Tryz.prog 69 = some (some 2) := by kernel_rfl
theorem a82 : aggOf Tryz.prog 82 = some none := by kernel_rfl
theorem f202_0 : fldOf Tryz.prog 202 0 = some 0 := by kernel_rfl
theorem f205_0 : fldOf Tryz.prog 205 0 = some 0 := by kernel_rfl
theorem f205_1 : fldOf Tryz.prog 205 1 = some 2 := by kernel_rfl
theorem k110 : callable Tryz.prog 110 = true := by kernel_rfl
theorem k111 : callable Tryz.prog 111 = true := by kernel_rfl
theorem k112 : callable Tryz.prog 112 = true := by kernel_rfl
theorem k113 : callable Tryz.prog 113 = true := by kernel_rfl
theorem k114 : callable Tryz.prog 114 = true := by kernel_rfl
theorem k129 : callable Tryz.prog 129 = true := by kernel_rfl
theorem k152 : callable Tryz.prog 152 = true := by kernel_rfl
theorem k153 : callable Tryz.prog 153 = true := by kernel_rfl
theorem k184 : callable Tryz.prog 184 = true := by kernel_rfl
theorem k63 : callable Tryz.prog 63 = true := by kernel_rfl
theorem mixedOk : Tryz.prog.follows .mixedOrders = true := by kernel_rfl
theorem p205 : placesOf Tryz.prog 205 = some [(0, 2), (2, 1)] := by kernel_rfl
theorem s205 : szOf Tryz.prog 205 = some 3 := by kernel_rfl
theorem s4 : szOf Tryz.prog 4 = some 1 := by kernel_rfl
theorem s82 : szOf Tryz.prog 82 = some 1 := by kernel_rfl
theorem sl199 : slOf Tryz.prog 199 = some (205, 3, 40) := by kernel_rfl
theorem sl82 : slOf Tryz.prog 82 = some (22, 1, 4) := by kernel_rfl
theorem z205 : zeroOf Tryz.prog 205 = some [.string .empty, .string .empty, .bool false] := by kernel_rfl
theorem z22 : zeroOf Tryz.prog 22 = some [.int .u32 0] := by kernel_rfl
theorem z82 : zeroOf Tryz.prog 82 = some [.slice none 0 0] := by kernel_rfl
theorem zz199 : (Tryz.prog.info? 199).bind (·.zero) = some (.slice none 0 0) := by kernel_rfl
end Go.SL.VT
namespace Go.SL
open Go Go.Proofs VT
theorem Lothers_spec {g : World} {p : Nat} (n : UInt32) : Spec Tryz.prog g 152 [.pointer (some ⟨p, 0, none⟩), .int .u32 n.toNat] [] fun K R => ∀ c2 c3, K (.func (.func 184) #[] #[.pointer (some ⟨c2, 0, none⟩), .pointer (some ⟨c3, 0, none⟩)]) (cl c2 125 [.pointer (some ⟨p, 0, none⟩)] :: cl c3 22 [.int .u32 n.toNat] :: R) := by
  refine Spec.intro Tryz.func152 rfl Tryz.ntmps152 rfl fun R K hK => ?_
  refine WP.seq ?_
  refine WP.reg ?_
  refine WL.h (h_box fun b1 => ?_)
  refine WL.h (h_box fun b2 => ?_)
  refine WL.e e_assign ?_
  refine WL.next ?_
  refine WP.seq ?_
  refine WP.reg ?_
  refine WL.e e_makeFunc <| WL.e e_assign ?_
  refine WL.next ?_
  refine WP.ret ?_
  exact PO.fin Tryz.results152 (rv_tmp rv_nil) (hK b1 b2)
set_option maxHeartbeats 4000000 in
theorem others_iter {g : World} {c2 c3 p m : Nat} {n : UInt32} {es : List (EntV UInt32 LockM)} (hn : ∀ e ∈ es, e.ws.length ≤ 68719476000) : Iter Tryz.prog g 184 (fun y => [] ++ [y] ++ [.pointer (some ⟨c2, 0, none⟩), .pointer (some ⟨c3, 0, none⟩)]) [cl c2 125 [.pointer (some ⟨p, 0, none⟩)], cl c3 22 [.int .u32 n.toNat], cl p 202 [.map (some m)], Mp eU32 (.map (some m)) (List.map kvE (es)), Ents 205 3 LockM.c (es)] lkC (fun _ => pu True) (fun xs => xs.Perm (othersL n es)) (fun pre => ∃ r, (pre ++ r).Perm (othersL n es)) [cl c2 125 [.pointer (some ⟨p, 0, none⟩)], cl c3 22 [.int .u32 n.toNat], cl p 202 [.map (some m)], Mp eU32 (.map (some m)) (List.map kvE (es)), Ents 205 3 LockM.c (es)] := by
  intro y J X cont hy
  refine Spec.intro Tryz.func184 rfl Tryz.ntmps184 rfl fun R K hK => ?_
  refine WP.seq ?_
  refine WP.reg ?_
  refine WL.e (e_load a125) <| WL.e e_nil <| WL.e (e_fa f202_0) <| WL.e (e_load a200) ?_
  refine WL.h (h_range (kvs := List.map kvE es) Tryz.underlying200 fun it => ?_)
  refine WL.next ?_
  refine WP.block ?_
  refine WP.loopK (fun (x : List (EntV UInt32 LockM) × List (UInt32 × LockM) × Option (UInt32 × Value)) => []) (fun (x : List (EntV UInt32 LockM) × List (UInt32 × LockM) × Option (UInt32 × Value)) => J x.2.1 :: MpIt eU32 (.map (some m)) it (List.map kvE es) (List.map kvE x.1) x.2.2 :: cl c2 125 [.pointer (some ⟨p, 0, none⟩)] :: cl c3 22 [.int .u32 n.toNat] :: cl p 202 [.map (some m)] :: Ents 205 3 LockM.c (es) :: R) [(0, _), (2, _), (12, _)] (fun (x : List (EntV UInt32 LockM) × List (UInt32 × LockM) × Option (UInt32 × Value)) => (x.2.1 ++ othersL n x.1).Perm (othersL n es) ∧ Hist cont x.2.1 ∧ ∀ e ∈ x.1, e ∈ es) (fun (x : List (EntV UInt32 LockM) × List (UInt32 × LockM) × Option (UInt32 × Value)) => x.1.length) (es, [], none) (⟨.refl _, Hist.nil, fun e h => h⟩) ?_
  rintro ⟨left, pre, cur⟩ ⟨hx1, hx2, hx3⟩
  simp only at hx1 hx2 hx3
  dsimp only
  refine WP.seq ?_
  refine WP.reg ?_
  refine WL.h (h_next (fun h0 => ?_) (fun a y0 b0 hx => ?_))
  · have hl0 : left = [] := by simpa using h0
    subst hl0
    refine WL.e e_extract ?_
    refine WL.next ?_
    refine WP.seq ?_
    refine WP.cond_f rfl ?_
    refine WP.exit ?_
    refine PO.past nofun ?_
    refine PO.round nofun ?_
    refine PO.blockX ?_
    exact PO.fin Tryz.results184 rv_nil (hK.1 pre (by simpa [othersL] using hx1) hx2)
  · obtain ⟨A1, y1, B1, hl, rfl, rfl, rfl⟩ := map_mid hx
    have htk := others_take hx1 hl
    have hyes : y1 ∈ es := hx3 y1 (by rw [hl]; simp)
    have hwl := hn y1 hyes
    refine WL.e e_extract ?_
    refine WL.next ?_
    refine WP.seq ?_
    refine WP.cond_t rfl ?_
    refine WP.skip ?_
    refine PO.next ?_
    refine WP.block ?_
    refine WP.seq ?_
    refine WP.reg ?_
    refine WL.e e_entry <| WL.e e_extract <| WL.e e_extract <| WL.e e_assign <| WL.e e_assign ?_
    refine WL.next ?_
    refine WP.seq ?_
    refine WP.reg ?_
    refine WL.e e_move ?_
    refine WL.e (el_len (xs := y1.ws) sl199 (ents_rl hyes)) <| WL.e e_move ?_
    refine WL.next ?_
    refine WP.block ?_
    refine WP.loopK (fun (x : Nat × List (UInt32 × LockM)) => [(20, .int .i64 x.1)]) (fun (x : Nat × List (UInt32 × LockM)) => J x.2 :: MpIt eU32 (.map (some m)) it (List.map kvE es) (List.map kvE A1 ++ List.map kvE B1) (some (kvE y1)) :: cl c2 125 [.pointer (some ⟨p, 0, none⟩)] :: cl c3 22 [.int .u32 n.toNat] :: cl p 202 [.map (some m)] :: Ents 205 3 LockM.c (es) :: R) [(0, _), (2, _), (4, _), (5, _), (12, _), (13, _), (14, _), (15, _), (16, _), (17, _), (18, _), (19, _)] (fun (x : Nat × List (UInt32 × LockM)) => x.1 ≤ y1.ws.length ∧ x.2 = pre ++ blkL n y1 x.1 ∧ Hist cont x.2) (fun (x : Nat × List (UInt32 × LockM)) => y1.ws.length - x.1) (0, pre) (⟨Nat.zero_le _, by simp [blkL], hx2⟩) ?_
    rintro ⟨k, pre2⟩ ⟨hk, hp2, hh2⟩
    simp only at hk hp2 hh2
    dsimp only
    refine WP.seq ?_
    refine WP.reg ?_
    refine WL.e e_lss ?_
    refine WL.next ?_
    refine WP.seq ?_
    refine WP.cond rfl (fun h3 => ?_) (fun h3 => ?_)
    · have hlt : k < y1.ws.length := by rw [decide_eq_true_eq] at h3; omega
      obtain ⟨l, hl2⟩ : ∃ l, y1.ws[k]? = some l := ⟨_, List.getElem?_eq_getElem hlt⟩
      refine WP.skip ?_
      refine PO.next ?_
      refine WP.seq ?_
      refine WP.block ?_
      refine WP.seq ?_
      refine WP.reg ?_
      refine WL.e (el_ia (j := k) (xs := y1.ws) sl199 (ents_rl hyes) hlt) ?_
      refine WL.e (el_loadN (a := l) a205 lockE (ents_rl hyes) hl2) ?_
      refine WL.h (h_alloc z205 fun b1 => ?_)
      refine WL.h' (h_store s205 ?_)
      refine WL.next ?_
      refine WP.seq ?_
      refine WP.reg ?_
      refine WL.e e_move <| WL.e (e_load a22) <| WL.e (e_neq32) <| WL.e e_move ?_
      refine WL.bool 27 rfl (fun hg => ?_) (fun hg => ?_)
      · replace hg : y1.key ≠ n := (show ¬ (kvE y1).1 = n by simpa using hg)
        refine WL.e e_move <| WL.e e_move <| WL.e (e_loadN a205) ?_
        refine WL.h (HO.conv (fun S h => pu_stars trivial h) (h_cally (hy pre2 (y1.key, l) (hp2 ▸ (others_pfx hg htk hl2)) hh2) ?_))
        refine ⟨fun hc => ?_, fun hc => ?_⟩
        · skip
          refine WL.e e_not <| WL.e e_pick_t ?_
          refine WL.next ?_
          refine WP.cond_f rfl ?_
          refine WP.skip ?_
          refine PO.blockN ?_
          refine PO.next ?_
          refine WP.reg ?_
          refine WL.e (e_add rfl rfl (w_i64 (by omega) (by omega))) <| WL.e e_move ?_
          refine WL.nil ?_
          exact PO.againK (k + 1, pre2 ++ [(y1.key, l)]) ⟨by simp only; omega, by simp only; rw [blk_step hg hl2, hp2, List.append_assoc], hh2.snoc hc⟩ (by simp only; omega)
        · skip
          refine WL.e e_not <| WL.e e_pick_t ?_
          refine WL.next ?_
          refine WP.cond_t rfl ?_
          refine WP.ret ?_
          refine PO.blockR ?_
          refine PO.past nofun ?_
          refine PO.round nofun ?_
          refine PO.blockR ?_
          refine PO.blockR ?_
          refine PO.round nofun ?_
          refine PO.blockR ?_
          refine PO.conv (conv1 (A := MpIt eU32 (.map (some m)) it (List.map kvE es) _ _) (B := Mp eU32 (.map (some m)) (List.map kvE (es))) MpIt_Mp (by repeat first | exact .z | apply Put.s)) ?_
          exact PO.fin Tryz.results184 rv_nil (hK.2 pre2 (y1.key, l) (hp2 ▸ (others_pfx hg htk hl2)) hh2 hc)
      · replace hg : y1.key = n := (show (kvE y1).1 = n by simpa using hg)
        refine WL.skip <| WL.skip <| WL.skip <| WL.skip <| WL.skip <| WL.e e_pick_f ?_
        refine WL.next ?_
        refine WP.cond_f rfl ?_
        refine WP.skip ?_
        refine PO.blockN ?_
        refine PO.next ?_
        refine WP.reg ?_
        refine WL.e (e_add rfl rfl (w_i64 (by omega) (by omega))) <| WL.e e_move ?_
        refine WL.nil ?_
        exact PO.againK (k + 1, pre2) ⟨by simp only; omega, by simp only; rw [hp2, blk_same hg k (k + 1)], hh2⟩ (by simp only; omega)
    · obtain rfl : k = y1.ws.length := by rw [decide_eq_false_iff_not] at h3; omega
      refine WP.exit ?_
      refine PO.past nofun ?_
      refine PO.round nofun ?_
      refine PO.blockX ?_
      refine PO.blockN ?_
      rw [← List.map_append]
      exact PO.againK (A1 ++ B1, pre2, _) ⟨by simp only; rw [hp2, List.append_assoc]; exact htk, hh2, fun e he => hx3 e (by rw [hl]; rcases List.mem_append.1 he with h | h <;> simp [h])⟩ (by simp only [hl, List.length_append, List.length_cons]; omega)
def WayJ (b1 b2 b3 : Nat) (sp : SpanM) (w : Bool) (pre : List (UInt32 × LockM)) : HP := fun S => ∃ sv : SV, stars [cl b1 69 (SpanM.c sp), cl b2 4 [.bool w], cl b3 82 [sv.v], Sl 22 1 u32C (sv.v) (((pre).filter (inW w sp)).map (·.1))] S
set_option maxHeartbeats 4000000 in
theorem LWay_spec {g : World} {p : Nat} {L : LkT} (n : UInt32) (sp : SpanM) (w : Bool) (hn : n ≠ 0) (hm : meet sp sp = true) (hk : (L.map (·.1)).Nodup) (ht : totL L ≤ 2000000000) : Spec Tryz.prog g 112 [.pointer (some ⟨p, 0, none⟩), .int .u32 n.toNat, sp.v, .bool w] [Lk p L] fun K R => ∀ a k c, K (.slice a k c) (Sl 22 1 u32C (.slice a k c) (wayL L n sp w) :: Lk p L :: R) := by
  refine Spec.intro Tryz.func112 rfl Tryz.ntmps112 rfl fun R K hK => ?_
  refine WP.seq ?_
  refine WP.reg ?_
  refine WL.h (h_box fun b1 => ?_)
  refine WL.h (h_box fun b2 => ?_)
  refine WL.h (h_alloc z82 fun b3 => ?_)
  refine WL.next ?_
  refine WP.seq ?_
  refine WP.seq ?_
  refine WP.reg ?_
  refine WL.e e_move ?_
  refine WL.h (h_call (Lthere_spec) k110 ?_)
  refine WL.e e_not <| WL.e e_move ?_
  refine WL.bool 14 rfl (fun h => ?_) (fun h => ?_)
  · cases h -- end
  · skip
    refine WL.e e_move <| WL.e (e_loadN a69) ?_
    refine WL.h (h_call (Lmay_spec _ _) k111 ?_)
    refine WL.e e_not <| WL.e e_pick_f ?_
    refine WL.next ?_
    refine WP.cond rfl (fun h1 => ?_) (fun h1 => ?_)
    · exact absurd h1 (by simp [hm, hn])
    · refine WP.opn (Lk_op (p := p) (L := L)) fun x => ?_
      obtain ⟨m, es⟩ := x
      dsimp only
      refine WP.pull (φ := List.map stE es = L) (k := fun hes => ?_)
      have htl : ∀ e ∈ es, e.ws.length ≤ 68719476000 := fun e he => by have := totL_mem (L := L) (e := stE e) (by rw [← hes]; exact List.mem_map.2 ⟨e, he, rfl⟩); simp only [stE] at this; omega
      have hol := others_len n es
      rw [hes] at hol
      refine WP.skip ?_
      refine PO.next ?_
      refine WP.seq ?_
      refine WP.seq ?_
      refine WP.reg ?_
      refine WL.e e_move <| WL.e e_move ?_
      refine WL.h (h_call (Lothers_spec n) k152 ?_)
      intro c2 c3
      refine WL.next ?_
      refine WP.block ?_
      refine WP.nils 22 1 u32C none ?_
      refine WP.cls (A := WayJ b1 b2 b3 sp w []) (B := [cl b1 69 (SpanM.c sp), cl b2 4 [.bool w], cl b3 82 [.slice none 0 0], Sl 22 1 u32C (.slice none 0 0) ([])]) (fun S h => ⟨⟨none, 0, 0⟩, h⟩) ?_
      refine WP.range (R := ?RR) (f := 184) (fs := []) (cs := [.pointer (some ⟨c2, 0, none⟩), .pointer (some ⟨c3, 0, none⟩)]) (WayJ b1 b2 b3 sp w) (fun _ _ _ => pu True) (fun _ _ => True) (others_iter (c2 := c2) (c3 := c3) (p := p) (m := m) (n := n) (es := es) htl) k184 ?hLL ?_ ?_ ?_ (fun _ => rfl)
      case hLL => repeat first | exact .nil | exact Pick.z | apply Pick.s | apply Split.cons
      · rintro lb db fn tmps pre x R2 hp hh
        refine WP.opn (B := fun sv : SV => [cl b1 69 (SpanM.c sp), cl b2 4 [.bool w], cl b3 82 [sv.v], Sl 22 1 u32C (sv.v) (((pre).filter (inW w sp)).map (·.1))]) (fun _ h => h) fun sv => ?_
        have hpl : (pre.filter (inW w sp)).length + 1 ≤ 68719476000 := by obtain ⟨r, hr⟩ := hp; have h8 := hr.length_eq; have h9 := List.length_filter_le (inW w sp) pre; simp only [List.length_append, List.length_singleton] at h8; omega
        refine WP.seq ?_
        refine WP.reg ?_
        refine WL.e e_assign ?_
        refine WL.next ?_
        refine WP.reg ?_
        refine WL.h (h_alloc z205 fun b4 => ?_)
        refine WL.h' (h_store s205 ?_)
        refine WL.nil ?_
        refine PO.asg rfl (by repeat first | exact .z | apply Put.s) ?_
        refine WP.block ?_
        refine WP.seq ?_
        refine WP.reg ?_
        refine WL.e (e_load a4) <| WL.e e_move ?_
        refine WL.bool 26 rfl (fun k1 => ?_) (fun k1 => ?_)
        · skip
          refine WL.skip <| WL.skip <| WL.e e_pick_t <| WL.e e_move <| WL.e (e_fa f205_0) <| WL.e (e_loadN a69) <| WL.e (e_loadN a69) ?_
          refine WL.h (h_call (Meet_spec ⟨_, _⟩ ⟨_, _⟩) k63 ?_)
          refine WL.e e_pick_t ?_
          refine WL.next ?_
          refine WP.cond rfl (fun h5 => ?_) (fun h5 => ?_)
          · replace h5 : meet x.2.s sp = true := h5
            refine WP.reg ?_
            refine WL.e (e_load a82) <| WL.e e_move ?_
            refine WL.h (h_bs sl82 z22 (.o (.tmp 37) rfl <| .n) fun b5 => ?_)
            refine WL.h (hl_append (xs := ((pre).filter (inW w sp)).map (·.1)) (ys := [x.1]) sl82 u32E z22 (lit_rl u32E [x.1] rfl) (by simp only [List.length_map, List.length_singleton]; omega) (fun a5 n5 c5 => ?_))
            refine WL.h' (h_store s82 ?_)
            refine WL.nil ?_
            refine PO.blockN ?_
            refine PO.cls (A := WayJ b1 b2 b3 sp w (pre ++ [x])) (B := [cl b1 69 (SpanM.c sp), cl b2 4 [.bool w], cl b3 82 [.slice a5 n5 c5], Sl 22 1 u32C (.slice a5 n5 c5) (((pre).filter (inW w sp)).map (·.1) ++ [x.1])]) (fun S h => ⟨⟨a5, n5, c5⟩, by rw [inW_snoc (show inW w sp x = true by simp only [inW]; rw [show w = true from k1, h5]; rfl)]; exact h⟩) ?_
            exact PO.rnd trivial (by repeat first | exact .refl | exact Pick.z | apply Pick.s | apply Sub.cons | apply Sub.drop)
          · replace h5 : meet x.2.s sp = false := h5
            refine WP.skip ?_
            refine PO.blockN ?_
            refine PO.cls (A := WayJ b1 b2 b3 sp w (pre ++ [x])) (B := [cl b1 69 (SpanM.c sp), cl b2 4 [.bool w], cl b3 82 [sv.v], Sl 22 1 u32C (sv.v) (((pre).filter (inW w sp)).map (·.1))]) (fun S h => ⟨sv, by rw [inW_skip (show inW w sp x = false by simp only [inW]; rw [h5]; simp)]; exact h⟩) ?_
            exact PO.rnd trivial (by repeat first | exact .refl | exact Pick.z | apply Pick.s | apply Sub.cons | apply Sub.drop)
        · skip
          refine WL.e (e_fa f205_1) <| WL.e (e_load a4) <| WL.e e_pick_f <| WL.e e_move ?_
          refine WL.bool 30 rfl (fun k2 => ?_) (fun k2 => ?_)
          · skip
            refine WL.e (e_fa f205_0) <| WL.e (e_loadN a69) <| WL.e (e_loadN a69) ?_
            refine WL.h (h_call (Meet_spec ⟨_, _⟩ ⟨_, _⟩) k63 ?_)
            refine WL.e e_pick_t ?_
            refine WL.next ?_
            refine WP.cond rfl (fun h5 => ?_) (fun h5 => ?_)
            · replace h5 : meet x.2.s sp = true := h5
              refine WP.reg ?_
              refine WL.e (e_load a82) <| WL.e e_move ?_
              refine WL.h (h_bs sl82 z22 (.o (.tmp 37) rfl <| .n) fun b6 => ?_)
              refine WL.h (hl_append (xs := ((pre).filter (inW w sp)).map (·.1)) (ys := [x.1]) sl82 u32E z22 (lit_rl u32E [x.1] rfl) (by simp only [List.length_map, List.length_singleton]; omega) (fun a5 n5 c5 => ?_))
              refine WL.h' (h_store s82 ?_)
              refine WL.nil ?_
              refine PO.blockN ?_
              refine PO.cls (A := WayJ b1 b2 b3 sp w (pre ++ [x])) (B := [cl b1 69 (SpanM.c sp), cl b2 4 [.bool w], cl b3 82 [.slice a5 n5 c5], Sl 22 1 u32C (.slice a5 n5 c5) (((pre).filter (inW w sp)).map (·.1) ++ [x.1])]) (fun S h => ⟨⟨a5, n5, c5⟩, by rw [inW_snoc (show inW w sp x = true by simp only [inW]; rw [show x.2.alone = true from k2, h5]; simp)]; exact h⟩) ?_
              exact PO.rnd trivial (by repeat first | exact .refl | exact Pick.z | apply Pick.s | apply Sub.cons | apply Sub.drop)
            · replace h5 : meet x.2.s sp = false := h5
              refine WP.skip ?_
              refine PO.blockN ?_
              refine PO.cls (A := WayJ b1 b2 b3 sp w (pre ++ [x])) (B := [cl b1 69 (SpanM.c sp), cl b2 4 [.bool w], cl b3 82 [sv.v], Sl 22 1 u32C (sv.v) (((pre).filter (inW w sp)).map (·.1))]) (fun S h => ⟨sv, by rw [inW_skip (show inW w sp x = false by simp only [inW]; rw [h5]; simp)]; exact h⟩) ?_
              exact PO.rnd trivial (by repeat first | exact .refl | exact Pick.z | apply Pick.s | apply Sub.cons | apply Sub.drop)
          · skip
            refine WL.skip <| WL.skip <| WL.skip <| WL.skip <| WL.e e_pick_f ?_
            refine WL.next ?_
            refine WP.cond_f rfl ?_
            refine WP.skip ?_
            refine PO.blockN ?_
            refine PO.cls (A := WayJ b1 b2 b3 sp w (pre ++ [x])) (B := [cl b1 69 (SpanM.c sp), cl b2 4 [.bool w], cl b3 82 [sv.v], Sl 22 1 u32C (sv.v) (((pre).filter (inW w sp)).map (·.1))]) (fun S h => ⟨sv, by rw [inW_skip (show inW w sp x = false by simp only [inW]; rw [show w = false from k1, show x.2.alone = false from k2]; rfl)]; exact h⟩) ?_
            exact PO.rnd trivial (by repeat first | exact .refl | exact Pick.z | apply Pick.s | apply Sub.cons | apply Sub.drop)
      · rintro db xs hp hh
        refine PO.opn (B := fun sv : SV => [cl b1 69 (SpanM.c sp), cl b2 4 [.bool w], cl b3 82 [sv.v], Sl 22 1 u32C (sv.v) (((xs).filter (inW w sp)).map (·.1))]) (fun _ h => h) fun sv => ?_
        refine PO.blockN ?_
        refine PO.next ?_
        refine WP.seq ?_
        refine WP.reg ?_
        refine WL.e (e_load a82) ?_
        refine WL.h (h_call (Sort32_spec (((xs).filter (inW w sp)).map (·.1)) (by have h8 := hp.length_eq; have h9 := List.length_filter_le (inW w sp) xs; rw [List.length_map]; omega)) k129 ?_)
        intro ys y1 y2
        refine WL.next ?_
        refine WP.seq ?_
        refine WP.reg ?_
        refine WL.e (e_load a82) ?_
        refine WL.h (h_call (CompactU_spec ys y2 (by have h7 := y1.length_eq; have h8 := hp.length_eq; have h9 := List.length_filter_le (inW w sp) xs; rw [List.length_map] at h7; omega)) k153 ?_)
        intro a9 n9 c9 zs z1 z2
        obtain rfl := way_is hk hes hp y1 z1 z2
        refine WL.h' (h_store s82 ?_)
        refine WL.next ?_
        refine WP.ret ?_
        refine PO.conv (fun S h => pu_stars (show List.map stE (es) = L from hes) h) ?_
        refine PO.cls (A := Lk p (L)) (B := [pu (List.map stE (es) = L), cl p 202 [.map (some m)], Mp eU32 (.map (some m)) (List.map kvE (es)), Ents 205 3 LockM.c (es)]) (fun S h => ⟨(m, es), h⟩) ?_
        exact PO.finM (by repeat first | exact .z | apply Put.s) Tryz.results112 (rv_cell a82 rv_nil) (hK a9 n9 c9)
      · exact fun _ _ _ _ _ _ hc => absurd trivial hc
set_option maxHeartbeats 4000000 in
theorem LAsk_spec {g : World} {p : Nat} {L : LkT} (n : UInt32) (sp : SpanM) (w : Bool) (hn : n ≠ 0) (hm : meet sp sp = true) (hk : (L.map (·.1)).Nodup) (ht : totL L ≤ 2000000000) : Spec Tryz.prog g 64 [.pointer (some ⟨p, 0, none⟩), .int .u32 n.toNat, sp.v, .bool w] [Lk p L] fun K R =>
      (0 < (wayL L n sp w).length → ∀ a k c, K (.tuple #[.slice a k c, .int .i64 8]) (Sl 22 1 u32C (.slice a k c) (wayL L n sp w) :: Lk p L :: R)) ∧ (¬ 0 < (wayL L n sp w).length → K (.tuple #[.slice none 0 0, .int .i64 0]) (Lk p (lockS L n sp w) :: R)) := by
  refine Spec.intro Tryz.func64 rfl Tryz.ntmps64 rfl fun R K hK => ?_
  refine WP.seq ?_
  refine WP.reg ?_
  refine WL.h (h_box fun b1 => ?_)
  refine WL.e e_assign <| WL.e e_assign ?_
  refine WL.next ?_
  refine WP.seq ?_
  refine WP.block ?_
  refine WP.seq ?_
  refine WP.reg ?_
  refine WL.e e_move ?_
  refine WL.h (h_call (Lthere_spec) k110 ?_)
  refine WL.e e_not <| WL.e e_assign ?_
  refine WL.next ?_
  refine WP.cond_f rfl ?_
  refine WP.seq ?_
  refine WP.reg ?_
  refine WL.e e_move <| WL.e (e_loadN a69) ?_
  refine WL.h (h_call (Lmay_spec _ _) k111 ?_)
  refine WL.e e_not <| WL.e e_assign ?_
  refine WL.next ?_
  refine WP.cond rfl (fun h1 => ?_) (fun h1 => ?_)
  · exact absurd h1 (by simp [hm, hn])
  · skip
    refine WP.skip ?_
    refine PO.blockN ?_
    refine PO.next ?_
    refine WP.seq ?_
    refine WP.seq ?_
    refine WP.reg ?_
    refine WL.e e_move <| WL.e e_move <| WL.e (e_loadN a69) <| WL.e e_move ?_
    refine WL.h (h_call (LWay_spec n sp w hn hm hk ht) k112 ?_)
    intro a1 k1 c1
    refine WL.e e_assign ?_
    refine WL.next ?_
    refine WP.seq ?_
    refine WP.reg ?_
    refine WL.e e_move ?_
    refine WL.e (el_len (xs := wayL L n sp w) sl82 sl_rl) <| WL.e e_gtr ?_
    refine WL.next ?_
    refine WP.cond rfl (fun h2 => ?_) (fun h2 => ?_)
    · replace h2 : 0 < (wayL L n sp w).length := by rw [decide_eq_true_eq] at h2; omega
      refine WP.seq ?_
      refine WP.reg ?_
      refine WL.e e_move <| WL.e e_assign <| WL.e e_assign ?_
      refine WL.next ?_
      refine WP.ret ?_
      refine PO.past nofun ?_
      exact PO.fin Tryz.results64 (rv_tmp (rv_tmp rv_nil)) (hK.1 h2 a1 k1 c1)
    · replace h2 : ¬ 0 < (wayL L n sp w).length := by rw [decide_eq_false_iff_not] at h2; omega
      refine WP.opn (Lk_op (p := p) (L := L)) fun x => ?_
      obtain ⟨m, es⟩ := x
      dsimp only
      refine WP.pull (φ := List.map stE es = L) (k := fun hes => ?_)
      have hwl : (wsE es n).length ≤ 2000000000 := by
        cases hf : findE es n with
        | none => rw [findE_ws hf]; exact Nat.zero_le _
        | some e => have := totL_mem (L := L) (e := stE e) (by rw [← hes]; exact List.mem_map.2 ⟨e, (findE_key hf).1, rfl⟩); simp only [stE] at this; unfold wsE; rw [hf]; simp only; omega
      refine WP.skip ?_
      refine PO.next ?_
      refine WP.seq ?_
      refine WP.reg ?_
      refine WL.e e_move <| WL.e e_nil <| WL.e (e_fa f202_0) <| WL.e (e_load a200) <| WL.e e_move ?_
      refine WL.e (eu_look (k := n) (es := es) Tryz.underlying200 (key_u32 Tryz.underlying22) zz199) <| WL.e e_assign ?_
      refine WL.next ?_
      refine WP.seq ?_
      refine WP.reg ?_
      refine WL.e e_move <| WL.e e_makeFunc ?_
      refine WL.h (h_call (IndexL_spec (A := Ents 205 3 LockM.c (es)) (B := cl b1 69 (SpanM.c sp)) (p := fun l => eqS l.s sp) (ents_keyU n) (by omega) (fun l => CallV.of_spec (fs := []) (cs := [.pointer (some ⟨b1, 0, none⟩)]) (Ask1_spec (q := b1) l sp) k114)) k113 ?_)
      refine WL.opn (Ents_take es n) fun _ => ?_
      refine WL.e e_assign ?_
      refine WL.next ?_
      refine WP.seq ?_
      refine WP.seq ?_
      refine WP.reg ?_
      refine WL.e e_move <| WL.e e_lss ?_
      refine WL.next ?_
      refine WP.cond rfl (fun h3 => ?_) (fun h3 => ?_)
      · have hany : (wsE es n).any (fun l => eqS l.s sp) = false := by cases e : (wsE es n).any (fun l => eqS l.s sp) with
          | false => rfl
          | true => rw [e, if_pos rfl, decide_eq_true_eq] at h3; omega
        refine WP.seq ?_
        refine WP.draws mixedOk 12 ?_
        refine RW.e 0 rfl e_move <| RW.e 1 rfl e_nil <| RW.e 2 rfl (e_fa f202_0) <| RW.e 3 rfl (e_load a200) <| RW.e 4 rfl e_move <| RW.e 5 rfl e_move <| RW.e 6 rfl (e_loadN a69) <| RW.e 7 rfl e_move <| RW.e 8 rfl (e_build z205 p205 (.a2 (.tmp 48) rfl <| .o (.tmp 49) rfl <| .n)) ?_
        refine RW.any (is := [9]) rfl ⟨?_, trivial⟩
        refine RWat.h rfl rfl rfl ?_
        refine (h_bs sl199 z205 (.a3 (.tmp 50) rfl <| .n) fun b2 => ?_)
        refine ⟨⟨⟨_, rfl, .inl ⟨rfl, e_move⟩⟩, ⟨_, rfl, .inl ⟨rfl, e_move⟩⟩, ⟨_, rfl, .inl ⟨rfl, (e_load a200)⟩⟩, ⟨_, rfl, .inl ⟨rfl, (e_fa f202_0)⟩⟩, ⟨_, rfl, .inl ⟨rfl, e_nil⟩⟩, ⟨_, rfl, .inl ⟨rfl, e_move⟩⟩, trivial⟩, ?_⟩
        refine RW.any (is := [10]) rfl ⟨?_, trivial⟩
        refine RWat.h rfl rfl rfl ?_
        refine (hl_append (xs := (wsE es n)) (ys := [(⟨sp, w⟩ : LockM)]) sl199 lockE z205 (lit_rl lockE [(⟨sp, w⟩ : LockM)] rfl) (by simp; omega) (fun a5 n5 c5 => ?_))
        rw [← ask_no hany]
        refine ⟨⟨⟨_, rfl, .inl ⟨rfl, e_move⟩⟩, ⟨_, rfl, .inl ⟨rfl, (e_load a200)⟩⟩, ⟨_, rfl, .inl ⟨rfl, (e_fa f202_0)⟩⟩, ⟨_, rfl, .inl ⟨rfl, e_nil⟩⟩, ⟨_, rfl, .inl ⟨rfl, e_move⟩⟩, trivial⟩, ?_⟩
        refine RW.any (is := [11]) rfl ⟨?_, trivial⟩
        refine RWat.h' rfl rfl rfl ?_
        refine (h_mapUpdate (k := n) (kvs := List.map kvE es) Tryz.underlying200 (key_u32 Tryz.underlying22) ?_)
        rw [show mset (List.map kvE es) n (.slice a5 n5 c5) = List.map kvE (setE es n ⟨a5, n5, c5⟩ (askL (wsE es n) sp w)) from mset_kvE es n ⟨a5, n5, c5⟩ _]
        refine ⟨trivial, ?_⟩
        refine RW.done ?_
        refine PO.next ?_
        refine WP.seq ?_
        refine WP.reg ?_
        refine WL.e e_assign <| WL.e e_assign ?_
        refine WL.next ?_
        refine WP.ret ?_
        refine PO.past nofun ?_
        refine PO.cls (A := Ents 205 3 LockM.c (setE es n ⟨a5, n5, c5⟩ (askL (wsE es n) sp w))) (B := [Sl 205 3 LockM.c (.slice a5 n5 c5) (askL (wsE es n) sp w), Ents 205 3 LockM.c (delE es n)]) (Ents_put es n ⟨a5, n5, c5⟩ (askL (wsE es n) sp w)) ?_
        refine PO.conv (fun S h => pu_stars (show List.map stE (setE es n ⟨a5, n5, c5⟩ (askL (wsE es n) sp w)) = lockS L n sp w from (lockS_st hes n sp w _)) h) ?_
        refine PO.cls (A := Lk p (lockS L n sp w)) (B := [pu (List.map stE (setE es n ⟨a5, n5, c5⟩ (askL (wsE es n) sp w)) = lockS L n sp w), cl p 202 [.map (some m)], Mp eU32 (.map (some m)) (List.map kvE (setE es n ⟨a5, n5, c5⟩ (askL (wsE es n) sp w))), Ents 205 3 LockM.c (setE es n ⟨a5, n5, c5⟩ (askL (wsE es n) sp w))]) (fun S h => ⟨(m, setE es n ⟨a5, n5, c5⟩ (askL (wsE es n) sp w)), h⟩) ?_
        exact PO.fin Tryz.results64 (rv_tmp (rv_tmp rv_nil)) (hK.2 h2)
      · have hany : (wsE es n).any (fun l => eqS l.s sp) = true := by cases e : (wsE es n).any (fun l => eqS l.s sp) with
          | true => rfl
          | false => rw [e] at h3; simp at h3
        rw [if_pos hany]
        obtain ⟨i0, l0, hi0, hl0, hls, hask⟩ := ask_yes (w := w) hany
        rw [hi0]
        refine WP.skip ?_
        refine PO.next ?_
        refine WP.seq ?_
        refine WP.reg ?_
        refine WL.e e_move <| WL.e e_move <| WL.e e_move <| WL.e e_move ?_
        refine WL.e (el_ia (j := i0) (xs := (wsE es n)) sl199 sl_rl (idx_lt hl0)) ?_
        refine WL.e (el_fa (z := 3) (j := i0) (xs := (wsE es n)) f205_1 sl_rl (idx_lt hl0)) ?_
        refine WL.e (el_load (j := i0) (f := 2) (xs := (wsE es n)) (a := l0) a4 lockE sl_rl hl0) <| WL.e e_move ?_
        refine WL.bool 60 rfl (fun k1 => ?_) (fun k1 => ?_)
        · skip
          refine WL.skip <| WL.e e_pick_t ?_
          refine WL.e (el_ia (j := i0) (xs := (wsE es n)) sl199 sl_rl (idx_lt hl0)) ?_
          refine WL.e (el_fa (z := 3) (j := i0) (xs := (wsE es n)) f205_1 sl_rl (idx_lt hl0)) ?_
          refine WL.h' (hl_set (y := 0) (j := 0) (f := i0 * 3 + 2) (n := (wsE es n).length) (z := 3) (E := 205) (cs := (wsE es n).flatMap LockM.c) s4 (by have := idx_lt hl0; omega) ?_ rfl)
          rw [flat_setF (xs := (wsE es n)) (a := l0) (a' := ⟨sp, true⟩) lockE hl0 (by decide) (by rw [← hls]; rfl)]
          refine WL.next ?_
          refine WP.seq ?_
          refine WP.reg ?_
          refine WL.e e_assign <| WL.e e_assign ?_
          refine WL.next ?_
          refine WP.ret ?_
          refine PO.conv (conv1 (A := Own 205 3 (svE es n).v (wsE es n).length (((wsE es n).set i0 ⟨sp, true⟩).flatMap LockM.c)) (B := Sl 205 3 LockM.c ((svE es n).v) ((wsE es n).set i0 ⟨sp, true⟩)) (fun S h => by unfold Sl; rw [List.length_set]; exact h) (by repeat first | exact .z | apply Put.s)) ?_
          refine PO.cls (A := Ents 205 3 LockM.c (setE es n (svE es n) ((wsE es n).set i0 ⟨sp, true⟩))) (B := [Sl 205 3 LockM.c ((svE es n).v) ((wsE es n).set i0 ⟨sp, true⟩), Ents 205 3 LockM.c (delE es n)]) (Ents_put es n (svE es n) ((wsE es n).set i0 ⟨sp, true⟩)) ?_
          refine PO.conv (conv1 (A := Mp eU32 (.map (some m)) (List.map kvE es)) (B := Mp eU32 (.map (some m)) (List.map kvE (setE es n (svE es n) ((wsE es n).set i0 ⟨sp, true⟩)))) (fun S h => by rw [← setE_kv hl0]; exact h) (by repeat first | exact .z | apply Put.s)) ?_
          rw [show (wsE es n).set i0 ⟨sp, true⟩ = askL (wsE es n) sp w by rw [hask, show l0.alone = true from k1]; rfl]
          refine PO.conv (fun S h => pu_stars (show List.map stE (setE es n (svE es n) (askL (wsE es n) sp w)) = lockS L n sp w from (lockS_st hes n sp w _)) h) ?_
          refine PO.cls (A := Lk p (lockS L n sp w)) (B := [pu (List.map stE (setE es n (svE es n) (askL (wsE es n) sp w)) = lockS L n sp w), cl p 202 [.map (some m)], Mp eU32 (.map (some m)) (List.map kvE (setE es n (svE es n) (askL (wsE es n) sp w))), Ents 205 3 LockM.c (setE es n (svE es n) (askL (wsE es n) sp w))]) (fun S h => ⟨(m, setE es n (svE es n) (askL (wsE es n) sp w)), h⟩) ?_
          exact PO.fin Tryz.results64 (rv_tmp (rv_tmp rv_nil)) (hK.2 h2)
        · skip
          refine WL.e e_move <| WL.e e_pick_f ?_
          refine WL.e (el_ia (j := i0) (xs := (wsE es n)) sl199 sl_rl (idx_lt hl0)) ?_
          refine WL.e (el_fa (z := 3) (j := i0) (xs := (wsE es n)) f205_1 sl_rl (idx_lt hl0)) ?_
          refine WL.h' (hl_set (y := 0) (j := 0) (f := i0 * 3 + 2) (n := (wsE es n).length) (z := 3) (E := 205) (cs := (wsE es n).flatMap LockM.c) s4 (by have := idx_lt hl0; omega) ?_ rfl)
          rw [flat_setF (xs := (wsE es n)) (a := l0) (a' := ⟨sp, w⟩) lockE hl0 (by decide) (by rw [← hls]; rfl)]
          refine WL.next ?_
          refine WP.seq ?_
          refine WP.reg ?_
          refine WL.e e_assign <| WL.e e_assign ?_
          refine WL.next ?_
          refine WP.ret ?_
          refine PO.conv (conv1 (A := Own 205 3 (svE es n).v (wsE es n).length (((wsE es n).set i0 ⟨sp, w⟩).flatMap LockM.c)) (B := Sl 205 3 LockM.c ((svE es n).v) ((wsE es n).set i0 ⟨sp, w⟩)) (fun S h => by unfold Sl; rw [List.length_set]; exact h) (by repeat first | exact .z | apply Put.s)) ?_
          refine PO.cls (A := Ents 205 3 LockM.c (setE es n (svE es n) ((wsE es n).set i0 ⟨sp, w⟩))) (B := [Sl 205 3 LockM.c ((svE es n).v) ((wsE es n).set i0 ⟨sp, w⟩), Ents 205 3 LockM.c (delE es n)]) (Ents_put es n (svE es n) ((wsE es n).set i0 ⟨sp, w⟩)) ?_
          refine PO.conv (conv1 (A := Mp eU32 (.map (some m)) (List.map kvE es)) (B := Mp eU32 (.map (some m)) (List.map kvE (setE es n (svE es n) ((wsE es n).set i0 ⟨sp, w⟩)))) (fun S h => by rw [← setE_kv hl0]; exact h) (by repeat first | exact .z | apply Put.s)) ?_
          rw [show (wsE es n).set i0 ⟨sp, w⟩ = askL (wsE es n) sp w by rw [hask, show l0.alone = false from k1]; rfl]
          refine PO.conv (fun S h => pu_stars (show List.map stE (setE es n (svE es n) (askL (wsE es n) sp w)) = lockS L n sp w from (lockS_st hes n sp w _)) h) ?_
          refine PO.cls (A := Lk p (lockS L n sp w)) (B := [pu (List.map stE (setE es n (svE es n) (askL (wsE es n) sp w)) = lockS L n sp w), cl p 202 [.map (some m)], Mp eU32 (.map (some m)) (List.map kvE (setE es n (svE es n) (askL (wsE es n) sp w))), Ents 205 3 LockM.c (setE es n (svE es n) (askL (wsE es n) sp w))]) (fun S h => ⟨(m, setE es n (svE es n) (askL (wsE es n) sp w)), h⟩) ?_
          exact PO.fin Tryz.results64 (rv_tmp (rv_tmp rv_nil)) (hK.2 h2)
end Go.SL
set_option linter.unusedSimpArgs false
set_option linter.unusedVariables false
namespace Go.SL.VU
open Go Go.Proofs Go.SL
theorem a123 : aggOf Tryz.prog 123 = some none := by kernel_rfl
theorem a124 : aggOf Tryz.prog 124 = some none := by kernel_rfl
theorem a125 : aggOf Tryz.prog 125 = some none := by kernel_rfl
theorem f127_1 : fldOf Tryz.prog 127 1 = some 1 := by kernel_rfl
theorem f127_3 : fldOf Tryz.prog 127 3 = some 3 := by kernel_rfl
theorem f127_4 : fldOf Tryz.prog 127 4 = some 4 := by kernel_rfl
theorem k119 : callable Tryz.prog 119 = true := by kernel_rfl
theorem k61 : callable Tryz.prog 61 = true := by kernel_rfl
theorem k62 : callable Tryz.prog 62 = true := by kernel_rfl
theorem k67 : callable Tryz.prog 67 = true := by kernel_rfl
theorem k74 : callable Tryz.prog 74 = true := by kernel_rfl
theorem p129 : placesOf Tryz.prog 129 = some [(0, 1), (1, 1)] := by kernel_rfl
theorem pt122 : isPtr Tryz.prog 122 = true := by kernel_rfl
theorem pt48 : isPtr Tryz.prog 48 = true := by kernel_rfl
theorem z129 : zeroOf Tryz.prog 129 = some [.slice none 0 0, .slice none 0 0] := by kernel_rfl
theorem zz122 : (Tryz.prog.info? 122).bind (·.zero) = some (.pointer none) := by kernel_rfl
end Go.SL.VU
namespace Go.SL
open Go Go.Proofs VU
def TxA_ (t : TxT) : HP := fun S => ∃ x : SV × SV, stars [cl t.q 129 [x.1.v, x.2.v], Sl 108 3 ChgM.c x.1.v t.x.own, Sl 22 1 u32C x.2.v t.x.waits] S
theorem TxA__op {t : TxT} : ∀ S, TxA_ t S → ∃ x : SV × SV, stars [cl t.q 129 [x.1.v, x.2.v], Sl 108 3 ChgM.c x.1.v t.x.own, Sl 22 1 u32C x.2.v t.x.waits] S := fun _ h => h
def TPA (t : TxT) : List HP := [TxA_ t]
def As (p dp : Nat) (s : StV) : HP := fun S => ∃ x : Nat × Nat × Nat × Nat, stars [cl p 127 [.pointer (some ⟨x.1, 0, none⟩), .pointer (some ⟨x.2.1, 0, none⟩), .int .u32 (UInt32.ofNat s.H.length).toNat, .map (some x.2.2.2), .pointer (some ⟨x.2.2.1, 0, none⟩)], cl x.1 193 [.pointer (some ⟨dp, 0, none⟩), .int .i64 s.at_], Dk dp s.d, Mm x.2.1 s.rows, Mp eU32 (.map (some x.2.2.2)) (List.map kvU s.txs), Lk x.2.2.1 s.locks] S
theorem As_op {p dp : Nat} {s : StV} : ∀ S, As p dp s S → ∃ x : Nat × Nat × Nat × Nat, stars [cl p 127 [.pointer (some ⟨x.1, 0, none⟩), .pointer (some ⟨x.2.1, 0, none⟩), .int .u32 (UInt32.ofNat s.H.length).toNat, .map (some x.2.2.2), .pointer (some ⟨x.2.2.1, 0, none⟩)], cl x.1 193 [.pointer (some ⟨dp, 0, none⟩), .int .i64 s.at_], Dk dp s.d, Mm x.2.1 s.rows, Mp eU32 (.map (some x.2.2.2)) (List.map kvU s.txs), Lk x.2.2.1 s.locks] S := fun _ h => h
theorem Athere_spec {g : World} {p dp : Nat} {s : StV} : Spec Tryz.prog g 61 [.pointer (some ⟨p, 0, none⟩)] [As p dp s] fun K R => K (.bool true) (As p dp s :: R) := by
  refine Spec.intro Tryz.func61 rfl Tryz.ntmps61 rfl fun R K hK => ?_
  refine WP.opn (As_op (p := p) (dp := dp) (s := s)) fun x => ?_
  obtain ⟨lp, mp, kp, mb⟩ := x
  dsimp only
  refine WP.seq ?_
  refine WP.reg ?_
  refine WL.e e_assign ?_
  refine WL.next ?_
  refine WP.seq ?_
  refine WP.reg ?_
  refine WL.e e_move <| WL.e (e_pne pt48) <| WL.e e_move ?_
  refine WL.bool 5 rfl (fun h => ?_) (fun h => ?_)
  · skip
    refine WL.e e_move <| WL.e e_nil <| WL.e (e_fa f127_3) <| WL.e (e_load a124) <| WL.e (e_mne Tryz.underlying124) <| WL.e e_pick_t <| WL.e e_assign ?_
    refine WL.next ?_
    refine WP.ret ?_
    refine PO.cls (A := As p dp (s)) (B := [cl p 127 [.pointer (some ⟨lp, 0, none⟩), .pointer (some ⟨mp, 0, none⟩), .int .u32 (UInt32.ofNat s.H.length).toNat, .map (some mb), .pointer (some ⟨kp, 0, none⟩)], cl lp 193 [.pointer (some ⟨dp, 0, none⟩), .int .i64 s.at_], Dk dp s.d, Mm mp s.rows, Mp eU32 (.map (some mb)) (List.map kvU s.txs), Lk kp s.locks]) (fun S h => ⟨(lp, mp, kp, mb), h⟩) ?_
    exact PO.fin Tryz.results61 (rv_tmp rv_nil) hK
  · cases h -- end
theorem Abegins_spec {g : World} {p dp : Nat} {s : StV} (n : UInt32) (hf : findU s.txs n = none) : Spec Tryz.prog g 62 [.pointer (some ⟨p, 0, none⟩), .int .u32 n.toNat] [As p dp s, TxsU TPA s.txs] fun K R => ∀ q, K (.tuple #[]) (As p dp { s with txs := s.txs ++ [begT s n q] } :: TxsU TPA (s.txs ++ [begT s n q]) :: R) := by
  refine Spec.intro Tryz.func62 rfl Tryz.ntmps62 rfl fun R K hK => ?_
  refine WP.opn (As_op (p := p) (dp := dp) (s := s)) fun x => ?_
  obtain ⟨lp, mp, kp, mb⟩ := x
  dsimp only
  refine WP.reg ?_
  refine WL.e e_move <| WL.e e_nil <| WL.e (e_fa f127_3) <| WL.e (e_load a124) <| WL.e e_move <| WL.e (e_build z129 p129 (.z (.slice none 0 0) <| .z (.slice none 0 0) <| .n)) ?_
  refine WL.h (h_box fun b1 => ?_)
  refine WL.h' (h_mapUpdate (k := n) (kvs := List.map kvU s.txs) Tryz.underlying124 (key_u32 Tryz.underlying22) ?_)
  rw [show mset (List.map kvU s.txs) n (.pointer (some ⟨b1, 0, none⟩)) = List.map kvU (s.txs ++ [begT s n b1]) from mset_kvU s.txs (begT s n b1) hf]
  refine WL.nil ?_
  refine PO.nils 108 3 ChgM.c none ?_
  refine PO.nils 22 1 u32C none ?_
  refine PO.cls (A := As p dp ({ s with txs := s.txs ++ [begT s n b1] })) (B := [cl p 127 [.pointer (some ⟨lp, 0, none⟩), .pointer (some ⟨mp, 0, none⟩), .int .u32 (UInt32.ofNat s.H.length).toNat, .map (some mb), .pointer (some ⟨kp, 0, none⟩)], cl lp 193 [.pointer (some ⟨dp, 0, none⟩), .int .i64 s.at_], Dk dp s.d, Mm mp s.rows, Mp eU32 (.map (some mb)) (List.map kvU (s.txs ++ [begT s n b1])), Lk kp s.locks]) (fun S h => ⟨(lp, mp, kp, mb), h⟩) ?_
  refine PO.cls (A := TxA_ (begT s n b1)) (B := [cl b1 129 [.slice none 0 0, .slice none 0 0], Sl 108 3 ChgM.c (.slice none 0 0) [], Sl 22 1 u32C (.slice none 0 0) []]) (fun S h => ⟨(⟨none, 0, 0⟩, ⟨none, 0, 0⟩), h⟩) ?_
  refine PO.cls (A := TxsU TPA (s.txs ++ [begT s n b1])) (B := [TxA_ (begT s n b1), TxsU TPA s.txs]) (fun S h => TxsU_in (TP := TPA) (A := s.txs) (B := []) (t := begT s n b1) S (by rw [List.append_nil]; exact h)) ?_
  exact PO.fin Tryz.results62 rv_nil (hK b1)
theorem ABegin_spec {g : World} {p dp : Nat} {s : StV} (n : UInt32) : Spec Tryz.prog g 23 [.pointer (some ⟨p, 0, none⟩), .int .u32 n.toNat] [As p dp s, TxsU TPA s.txs] fun K R => ∀ q, K (.int .i64 (begE s n)) (As p dp (begS s n q) :: TxsU TPA (begS s n q).txs :: R) := by
  refine Spec.intro Tryz.func23 rfl Tryz.ntmps23 rfl fun R K hK => ?_
  refine WP.seq ?_
  refine WP.reg ?_
  refine WL.e e_assign ?_
  refine WL.next ?_
  refine WP.seq ?_
  refine WP.block ?_
  refine WP.seq ?_
  refine WP.reg ?_
  refine WL.e e_move ?_
  refine WL.h (h_call (Athere_spec) k61 ?_)
  refine WL.e e_not <| WL.e e_assign ?_
  refine WL.next ?_
  refine WP.cond_f rfl ?_
  refine WP.seq ?_
  refine WP.reg ?_
  refine WL.e e_move <| WL.e (e_eql32 (b := 0)) <| WL.e e_assign ?_
  refine WL.next ?_
  refine WP.cond rfl (fun h1 => ?_) (fun h1 => ?_)
  · replace h1 : n = 0 := by simpa using h1
    have hE : begE s n = 1 := by simp [begE, h1]
    refine WP.seq ?_
    refine WP.reg ?_
    refine WL.e e_assign ?_
    refine WL.next ?_
    refine WP.ret ?_
    refine PO.blockR ?_
    refine PO.past nofun ?_
    have hK := hK 0
    rw [hE, show begS s n 0 = s by simp [begS, hE]] at hK
    exact PO.fin Tryz.results23 (rv_tmp rv_nil) hK
  · replace h1 : n ≠ 0 := by simpa using h1
    refine WP.opn (As_op (p := p) (dp := dp) (s := s)) fun x => ?_
    obtain ⟨lp, mp, kp, mb⟩ := x
    dsimp only
    refine WP.seq ?_
    refine WP.reg ?_
    refine WL.e e_move <| WL.e e_nil <| WL.e (e_fa f127_3) <| WL.e (e_load a124) <| WL.e e_move ?_
    refine WL.e (e_lookU (n := n) (ts := s.txs) Tryz.underlying124 (key_u32 Tryz.underlying22) zz122) <| WL.e (e_pne pt122) <| WL.e e_assign ?_
    refine WL.next ?_
    refine WP.cond rfl (fun h2 => ?_) (fun h2 => ?_)
    · replace h2 : (findU s.txs n).isSome = true := by cases e : findU s.txs n with
        | none => rw [e] at h2; cases h2
        | some t => rfl
      have hE : begE s n = 7 := by simp only [begE, h1, h2]; simp
      refine WP.seq ?_
      refine WP.reg ?_
      refine WL.e e_assign ?_
      refine WL.next ?_
      refine WP.ret ?_
      refine PO.blockR ?_
      refine PO.past nofun ?_
      refine PO.cls (A := As p dp (s)) (B := [cl p 127 [.pointer (some ⟨lp, 0, none⟩), .pointer (some ⟨mp, 0, none⟩), .int .u32 (UInt32.ofNat s.H.length).toNat, .map (some mb), .pointer (some ⟨kp, 0, none⟩)], cl lp 193 [.pointer (some ⟨dp, 0, none⟩), .int .i64 s.at_], Dk dp s.d, Mm mp s.rows, Mp eU32 (.map (some mb)) (List.map kvU s.txs), Lk kp s.locks]) (fun S h => ⟨(lp, mp, kp, mb), h⟩) ?_
      have hK := hK 0
      rw [hE, show begS s n 0 = s by simp [begS, hE]] at hK
      exact PO.fin Tryz.results23 (rv_tmp rv_nil) hK
    · have hf : findU s.txs n = none := by cases e : findU s.txs n with
        | none => rfl
        | some t => rw [e] at h2; cases h2
      refine WP.seq ?_
      refine WP.reg ?_
      refine WL.e e_move <| WL.e e_nil <| WL.e (e_fa f127_3) <| WL.e (e_load a124) <| WL.e (e_len_map Tryz.underlying124) <| WL.e e_geq <| WL.e e_assign ?_
      refine WL.next ?_
      refine WP.cond rfl (fun h3 => ?_) (fun h3 => ?_)
      · replace h3 : 32 ≤ s.txs.length := by simp at h3; omega
        have hE : begE s n = 5 := by simp [begE, h1, hf, h3]
        refine WP.seq ?_
        refine WP.reg ?_
        refine WL.e e_assign ?_
        refine WL.next ?_
        refine WP.ret ?_
        refine PO.blockR ?_
        refine PO.past nofun ?_
        refine PO.cls (A := As p dp (s)) (B := [cl p 127 [.pointer (some ⟨lp, 0, none⟩), .pointer (some ⟨mp, 0, none⟩), .int .u32 (UInt32.ofNat s.H.length).toNat, .map (some mb), .pointer (some ⟨kp, 0, none⟩)], cl lp 193 [.pointer (some ⟨dp, 0, none⟩), .int .i64 s.at_], Dk dp s.d, Mm mp s.rows, Mp eU32 (.map (some mb)) (List.map kvU s.txs), Lk kp s.locks]) (fun S h => ⟨(lp, mp, kp, mb), h⟩) ?_
        have hK := hK 0
        rw [hE, show begS s n 0 = s by simp [begS, hE]] at hK
        exact PO.fin Tryz.results23 (rv_tmp rv_nil) hK
      · replace h3 : ¬ 32 ≤ s.txs.length := by simp at h3; omega
        have hE : begE s n = 0 := by simp only [begE, h1, hf, h3]; simp
        refine WP.cls (A := As p dp (s)) (B := [cl p 127 [.pointer (some ⟨lp, 0, none⟩), .pointer (some ⟨mp, 0, none⟩), .int .u32 (UInt32.ofNat s.H.length).toNat, .map (some mb), .pointer (some ⟨kp, 0, none⟩)], cl lp 193 [.pointer (some ⟨dp, 0, none⟩), .int .i64 s.at_], Dk dp s.d, Mm mp s.rows, Mp eU32 (.map (some mb)) (List.map kvU s.txs), Lk kp s.locks]) (fun S h => ⟨(lp, mp, kp, mb), h⟩) ?_
        
        refine WP.skip ?_
        refine PO.blockN ?_
        refine PO.next ?_
        refine WP.seq ?_
        refine WP.reg ?_
        refine WL.e e_move <| WL.e e_move ?_
        refine WL.h (h_call (Abegins_spec n hf) k62 ?_)
        intro q
        refine WL.next ?_
        refine WP.seq ?_
        refine WP.reg ?_
        refine WL.e e_assign ?_
        refine WL.next ?_
        refine WP.ret ?_
        have hK := hK q
        rw [hE, begS, if_pos hE] at hK
        exact PO.fin Tryz.results23 (rv_tmp rv_nil) hK
theorem Aends_spec {g : World} {p dp : Nat} {s : StV} (n : UInt32) : Spec Tryz.prog g 67 [.pointer (some ⟨p, 0, none⟩), .int .u32 n.toNat] [As p dp s] fun K R => K (.tuple #[]) (As p dp (endsA s n) :: R) := by
  refine Spec.intro Tryz.func67 rfl Tryz.ntmps67 rfl fun R K hK => ?_
  refine WP.opn (As_op (p := p) (dp := dp) (s := s)) fun x => ?_
  obtain ⟨lp, mp, kp, mb⟩ := x
  dsimp only
  refine WP.seq ?_
  refine WP.reg ?_
  refine WL.e e_move <| WL.e e_nil <| WL.e (e_fa f127_4) <| WL.e (e_load a125) <| WL.e e_move ?_
  refine WL.h (h_call (LFree_spec n) k119 ?_)
  intro k
  refine WL.next ?_
  refine WP.reg ?_
  refine WL.e e_move <| WL.e e_nil <| WL.e (e_fa f127_3) <| WL.e (e_load a124) <| WL.e e_move ?_
  refine WL.h' (h_delete (k := n) (kvs := List.map kvU s.txs) Tryz.underlying124 (key_u32 Tryz.underlying22) ?_)
  rw [mdel_kvU]
  refine WL.nil ?_
  refine PO.cls (A := As p dp (endsA s n)) (B := [cl p 127 [.pointer (some ⟨lp, 0, none⟩), .pointer (some ⟨mp, 0, none⟩), .int .u32 (UInt32.ofNat s.H.length).toNat, .map (some mb), .pointer (some ⟨kp, 0, none⟩)], cl lp 193 [.pointer (some ⟨dp, 0, none⟩), .int .i64 s.at_], Dk dp s.d, Mm mp s.rows, Mp eU32 (.map (some mb)) (List.map kvU (delU s.txs n)), Lk kp (freeL s.locks n)]) (fun S h => ⟨(lp, mp, kp, mb), h⟩) ?_
  exact PO.fin Tryz.results67 rv_nil hK
theorem AendsD_spec {g : World} {p dp : Nat} {s : StV} (n : UInt32) : SpecD Tryz.prog g 67 [.pointer (some ⟨p, 0, none⟩), .int .u32 n.toNat] [As p dp s] fun K R => K (.tuple #[]) (As p dp (endsA s n) :: R) := by
  refine SpecD.intro Tryz.func67 rfl Tryz.ntmps67 rfl fun R K hK => ?_
  refine WP.opn (As_op (p := p) (dp := dp) (s := s)) fun x => ?_
  obtain ⟨lp, mp, kp, mb⟩ := x
  dsimp only
  refine WP.seq ?_
  refine WP.reg ?_
  refine WL.e e_move <| WL.e e_nil <| WL.e (e_fa f127_4) <| WL.e (e_load a125) <| WL.e e_move ?_
  refine WL.h (h_call (LFree_spec n) k119 ?_)
  intro k
  refine WL.next ?_
  refine WP.reg ?_
  refine WL.e e_move <| WL.e e_nil <| WL.e (e_fa f127_3) <| WL.e (e_load a124) <| WL.e e_move ?_
  refine WL.h' (h_delete (k := n) (kvs := List.map kvU s.txs) Tryz.underlying124 (key_u32 Tryz.underlying22) ?_)
  rw [mdel_kvU]
  refine WL.nil ?_
  refine PO.cls (A := As p dp (endsA s n)) (B := [cl p 127 [.pointer (some ⟨lp, 0, none⟩), .pointer (some ⟨mp, 0, none⟩), .int .u32 (UInt32.ofNat s.H.length).toNat, .map (some mb), .pointer (some ⟨kp, 0, none⟩)], cl lp 193 [.pointer (some ⟨dp, 0, none⟩), .int .i64 s.at_], Dk dp s.d, Mm mp s.rows, Mp eU32 (.map (some mb)) (List.map kvU (delU s.txs n)), Lk kp (freeL s.locks n)]) (fun S h => ⟨(lp, mp, kp, mb), h⟩) ?_
  exact PO.finDD Tryz.results67 rv_nil hK
theorem AAbort_spec {g : World} {p dp b : Nat} {s : StV} (n : UInt32) (hs : AlphaOk s b) : Spec Tryz.prog g 28 [.pointer (some ⟨p, 0, none⟩), .int .u32 n.toNat] [As p dp s, TxsU TPA s.txs] fun K R => K (.int .i64 (aboE s n)) (As p dp (aboS alphaI s n) :: TxsU TPA (aboS alphaI s n).txs :: R) := by
  refine Spec.intro Tryz.func28 rfl Tryz.ntmps28 rfl fun R K hK => ?_
  refine WP.seq ?_
  refine WP.reg ?_
  refine WL.e e_assign ?_
  refine WL.next ?_
  refine WP.seq ?_
  refine WP.block ?_
  refine WP.seq ?_
  refine WP.reg ?_
  refine WL.e e_move ?_
  refine WL.h (h_call (Athere_spec) k61 ?_)
  refine WL.e e_not <| WL.e e_assign ?_
  refine WL.next ?_
  refine WP.cond_f rfl ?_
  refine WP.opn (As_op (p := p) (dp := dp) (s := s)) fun x => ?_
  obtain ⟨lp, mp, kp, mb⟩ := x
  dsimp only
  refine WP.seq ?_
  refine WP.reg ?_
  refine WL.e e_move <| WL.e e_nil <| WL.e (e_fa f127_3) <| WL.e (e_load a124) <| WL.e e_move ?_
  refine WL.e (e_lookU (n := n) (ts := s.txs) Tryz.underlying124 (key_u32 Tryz.underlying22) zz122) <| WL.e (e_peq pt122) <| WL.e e_assign ?_
  refine WL.next ?_
  refine WP.cond rfl (fun h2 => ?_) (fun h2 => ?_)
  · have hf : findU s.txs n = none := by simpa using h2
    rw [show aboE s n = 6 by simp [aboE, hf], show aboS alphaI s n = s by simp [aboS, hf]] at hK
    refine WP.seq ?_
    refine WP.reg ?_
    refine WL.e e_assign ?_
    refine WL.next ?_
    refine WP.ret ?_
    refine PO.blockR ?_
    refine PO.past nofun ?_
    refine PO.cls (A := As p dp (s)) (B := [cl p 127 [.pointer (some ⟨lp, 0, none⟩), .pointer (some ⟨mp, 0, none⟩), .int .u32 (UInt32.ofNat s.H.length).toNat, .map (some mb), .pointer (some ⟨kp, 0, none⟩)], cl lp 193 [.pointer (some ⟨dp, 0, none⟩), .int .i64 s.at_], Dk dp s.d, Mm mp s.rows, Mp eU32 (.map (some mb)) (List.map kvU s.txs), Lk kp s.locks]) (fun S h => ⟨(lp, mp, kp, mb), h⟩) ?_
    exact PO.fin Tryz.results28 (rv_tmp rv_nil) hK
  · obtain ⟨t, hf⟩ : ∃ t, findU s.txs n = some t := by cases e : findU s.txs n with
      | none => rw [e] at h2; cases h2
      | some t => exact ⟨t, rfl⟩
    rw [hf, Option.map_some]
    rw [show aboE s n = 0 by simp [aboE, hf], show aboS alphaI s n = endsA s n by simp [aboS, hf, alphaI]] at hK
    refine WP.cls (A := As p dp (s)) (B := [cl p 127 [.pointer (some ⟨lp, 0, none⟩), .pointer (some ⟨mp, 0, none⟩), .int .u32 (UInt32.ofNat s.H.length).toNat, .map (some mb), .pointer (some ⟨kp, 0, none⟩)], cl lp 193 [.pointer (some ⟨dp, 0, none⟩), .int .i64 s.at_], Dk dp s.d, Mm mp s.rows, Mp eU32 (.map (some mb)) (List.map kvU s.txs), Lk kp s.locks]) (fun S h => ⟨(lp, mp, kp, mb), h⟩) ?_
    refine WP.cls (A := TxsU TPA (delU s.txs n)) (B := [TxsU TPA s.txs]) (fun S h => TxsU_del (stars_h1U h)) ?_
    
    refine WP.skip ?_
    refine PO.blockN ?_
    refine PO.next ?_
    refine WP.seq ?_
    refine WP.reg ?_
    refine WL.e e_move <| WL.e e_move ?_
    refine WL.h (h_call (Aends_spec n) k67 ?_)
    refine WL.next ?_
    refine WP.seq ?_
    refine WP.reg ?_
    refine WL.e e_assign ?_
    refine WL.next ?_
    refine WP.ret ?_
    exact PO.fin Tryz.results28 (rv_tmp rv_nil) hK
theorem ARows_spec {g : World} {p dp b : Nat} {s : StV} (hs : AlphaOk s b) : Spec Tryz.prog g 37 [.pointer (some ⟨p, 0, none⟩)] [As p dp s] fun K R => ∀ a m c, K (.slice a m c) (Sl 40 2 RowM.c (.slice a m c) s.rows :: As p dp s :: R) := by
  refine Spec.intro Tryz.func37 rfl Tryz.ntmps37 rfl fun R K hK => ?_
  refine WP.seq ?_
  refine WP.reg ?_
  refine WL.e e_assign ?_
  refine WL.next ?_
  refine WP.seq ?_
  refine WP.seq ?_
  refine WP.reg ?_
  refine WL.e e_move ?_
  refine WL.h (h_call (Athere_spec) k61 ?_)
  refine WL.e e_not ?_
  refine WL.next ?_
  refine WP.cond_f rfl ?_
  refine WP.opn (As_op (p := p) (dp := dp) (s := s)) fun x => ?_
  obtain ⟨lp, mp, kp, mb⟩ := x
  dsimp only
  refine WP.skip ?_
  refine PO.next ?_
  refine WP.seq ?_
  refine WP.reg ?_
  refine WL.e e_move <| WL.e e_nil <| WL.e (e_fa f127_1) <| WL.e (e_load a123) ?_
  refine WL.h (h_call (Rows_spec (l := s.rows) (by have := hs.st.rows_le; have := hs.st.bb; omega)) k74 ?_)
  intro a9 m9 c9
  refine WL.e e_assign ?_
  refine WL.next ?_
  refine WP.ret ?_
  refine PO.cls (A := As p dp (s)) (B := [cl p 127 [.pointer (some ⟨lp, 0, none⟩), .pointer (some ⟨mp, 0, none⟩), .int .u32 (UInt32.ofNat s.H.length).toNat, .map (some mb), .pointer (some ⟨kp, 0, none⟩)], cl lp 193 [.pointer (some ⟨dp, 0, none⟩), .int .i64 s.at_], Dk dp s.d, Mm mp s.rows, Mp eU32 (.map (some mb)) (List.map kvU s.txs), Lk kp s.locks]) (fun S h => ⟨(lp, mp, kp, mb), h⟩) ?_
  exact PO.fin Tryz.results37 (rv_tmp rv_nil) (hK a9 m9 c9)
end Go.SL

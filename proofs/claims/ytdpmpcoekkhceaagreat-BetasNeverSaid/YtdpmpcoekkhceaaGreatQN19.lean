/- VC: rules and walks, several texts in one. -/
import Derived.Test.YtdpmpcoekkhceaaGreatQN18
import Derived.Test.YtdpmpcoekkhceaaGreatProg
import Derived.KernelRfl
set_option linter.unusedSimpArgs false
set_option linter.unusedVariables false
namespace Go.SL.VC
open Go Go.Proofs Go.SL
theorem a108 : aggOf Tryz.prog 108 = some (some 3) := by kernel_rfl
theorem a171 : aggOf Tryz.prog 171 = some none := by kernel_rfl
theorem a174 : aggOf Tryz.prog 174 = some none := by kernel_rfl
theorem a176 : aggOf Tryz.prog 176 = some (some 3) := by kernel_rfl
theorem a22 : aggOf Tryz.prog 22 = some none := by kernel_rfl
theorem a4 : aggOf Tryz.prog 4 = some none := by kernel_rfl
theorem a69 : aggOf Tryz.prog 69 = some (some 2) := by kernel_rfl
theorem a9 : aggOf Tryz.prog 9 = some none := by kernel_rfl
theorem f108_0 : fldOf Tryz.prog 108 0 = some 0 := by kernel_rfl
theorem f108_1 : fldOf Tryz.prog 108 1 = some 1 := by kernel_rfl
theorem f108_2 : fldOf Tryz.prog 108 2 = some 2 := by kernel_rfl
theorem f173_0 : fldOf Tryz.prog 173 0 = some 0 := by kernel_rfl
theorem f173_1 : fldOf Tryz.prog 173 1 = some 1 := by kernel_rfl
theorem f173_2 : fldOf Tryz.prog 173 2 = some 2 := by kernel_rfl
theorem f176_0 : fldOf Tryz.prog 176 0 = some 0 := by kernel_rfl
theorem f176_1 : fldOf Tryz.prog 176 1 = some 1 := by kernel_rfl
theorem f176_2 : fldOf Tryz.prog 176 2 = some 2 := by kernel_rfl
theorem k108 : callable Tryz.prog 108 = true := by kernel_rfl
theorem k151 : callable Tryz.prog 151 = true := by kernel_rfl
theorem k183 : callable Tryz.prog 183 = true := by kernel_rfl
theorem k63 : callable Tryz.prog 63 = true := by kernel_rfl
theorem k69 : callable Tryz.prog 69 = true := by kernel_rfl
theorem k71 : callable Tryz.prog 71 = true := by kernel_rfl
theorem k72 : callable Tryz.prog 72 = true := by kernel_rfl
theorem k85 : callable Tryz.prog 85 = true := by kernel_rfl
theorem k92 : callable Tryz.prog 92 = true := by kernel_rfl
theorem mixedOk : Tryz.prog.follows .mixedOrders = true := by kernel_rfl
theorem p173 : placesOf Tryz.prog 173 = some [(0, 1), (1, 1), (2, 1)] := by kernel_rfl
theorem p176 : placesOf Tryz.prog 176 = some [(0, 1), (1, 1), (2, 1)] := by kernel_rfl
theorem p69 : placesOf Tryz.prog 69 = some [(0, 1), (1, 1)] := by kernel_rfl
theorem pt97 : isPtr Tryz.prog 97 = true := by kernel_rfl
theorem s108 : szOf Tryz.prog 108 = some 3 := by kernel_rfl
theorem s176 : szOf Tryz.prog 176 = some 3 := by kernel_rfl
theorem s22 : szOf Tryz.prog 22 = some 1 := by kernel_rfl
theorem s4 : szOf Tryz.prog 4 = some 1 := by kernel_rfl
theorem sl103 : slOf Tryz.prog 103 = some (108, 3, 24) := by kernel_rfl
theorem sl174 : slOf Tryz.prog 174 = some (176, 3, 12) := by kernel_rfl
theorem z108 : zeroOf Tryz.prog 108 = some [.string .empty, .int .u32 0, .bool false] := by kernel_rfl
theorem z173 : zeroOf Tryz.prog 173 = some [.map none, .int .u32 0, .int .u32 0] := by kernel_rfl
theorem z176 : zeroOf Tryz.prog 176 = some [.int .u32 0, .int .u32 0, .bool false] := by kernel_rfl
theorem z22 : zeroOf Tryz.prog 22 = some [.int .u32 0] := by kernel_rfl
theorem z4 : zeroOf Tryz.prog 4 = some [.bool false] := by kernel_rfl
theorem z69 : zeroOf Tryz.prog 69 = some [.string .empty, .string .empty] := by kernel_rfl
theorem zz174 : (Tryz.prog.info? 174).bind (·.zero) = some (.slice none 0 0) := by kernel_rfl
end Go.SL.VC
namespace Go.SL
open Go Go.Proofs VC
def Pa (p : Nat) (H : HistT) (trim : UInt32) : HP := fun S => ∃ x : Value × List (EntV ByteArray WasM) × UInt32, stars [pu (PastOk (List.map stE x.2.1) x.2.2 trim H), cl p 173 [x.1, .int .u32 x.2.2.toNat, .int .u32 trim.toNat], Mp eStr x.1 (List.map kvE x.2.1), Ents 176 3 WasM.c x.2.1] S
theorem Pa_op {p : Nat} {H : HistT} {trim : UInt32} : ∀ S, Pa p H trim S → ∃ x : Value × List (EntV ByteArray WasM) × UInt32, stars [pu (PastOk (List.map stE x.2.1) x.2.2 trim H), cl p 173 [x.1, .int .u32 x.2.2.toNat, .int .u32 trim.toNat], Mp eStr x.1 (List.map kvE x.2.1), Ents 176 3 WasM.c x.2.1] S := fun _ h => h
theorem PNew_spec {g : World} : Spec Tryz.prog g 84 [] [] fun K R => ∀ p, K (.pointer (some ⟨p, 0, none⟩)) (Pa p [] 0 :: R) := by
  refine Spec.intro Tryz.func84 rfl Tryz.ntmps84 rfl fun R K hK => ?_
  refine WP.seq ?_
  refine WP.reg ?_
  refine WL.e e_assign ?_
  refine WL.next ?_
  refine WP.seq ?_
  refine WP.reg ?_
  refine WL.h (h_makeMapB (ek := eStr) fun nb => ?_)
  refine WL.e (e_build z173 p173 (.o (.tmp 1) rfl <| .z (.int .u32 0) <| .z (.int .u32 0) <| .n)) ?_
  refine WL.h (h_box fun b1 => ?_)
  refine WL.e e_assign ?_
  refine WL.next ?_
  refine WP.ret ?_
  refine PO.conv (fun S h => Ents_nil (κ := ByteArray) (E := 176) (z := 3) (enc := WasM.c) h) ?_
  refine PO.conv (fun S h => pu_stars (show PastOk (List.map stE []) 0 0 [] from PastOk.init) h) ?_
  refine PO.cls (A := Pa b1 [] 0) (B := [pu (PastOk (List.map stE []) 0 0 []), cl b1 173 [.map (some nb), .int .u32 (0 : UInt32).toNat, .int .u32 (0 : UInt32).toNat], Mp eStr (.map (some nb)) (List.map kvE []), Ents 176 3 WasM.c []]) (fun S h => ⟨(.map (some nb), [], 0), h⟩) ?_
  exact PO.fin Tryz.results84 (rv_tmp rv_nil) (hK b1)
theorem Pthere_spec {g : World} {p : Nat} {H : List (List ChgM)} {trim : UInt32} : Spec Tryz.prog g 92 [.pointer (some ⟨p, 0, none⟩)] [Pa p H trim] fun K R => K (.bool true) (Pa p H trim :: R) := by
  refine Spec.intro Tryz.func92 rfl Tryz.ntmps92 rfl fun R K hK => ?_
  refine WP.opn (Pa_op (p := p) (H := H) (trim := trim)) fun x => ?_
  obtain ⟨m, es, now⟩ := x
  dsimp only
  refine WP.pull (φ := PastOk (List.map stE es) now trim H) (k := fun hP => ?_)
  refine WP.seq ?_
  refine WP.reg ?_
  refine WL.e e_assign ?_
  refine WL.next ?_
  refine WP.seq ?_
  refine WP.reg ?_
  refine WL.e e_move <| WL.e (e_pne pt97) <| WL.e e_move ?_
  refine WL.bool 5 rfl (fun h => ?_) (fun h => ?_)
  · skip
    refine WL.e e_move <| WL.e e_nil <| WL.e (e_fa f173_0) <| WL.e (e_load a171) <| WL.e (e_mne Tryz.underlying171) <| WL.e e_pick_t <| WL.e e_assign ?_
    refine WL.next ?_
    refine WP.ret ?_
    refine PO.conv (fun S h => pu_stars (show PastOk (List.map stE es) now trim H from hP) h) ?_
    refine PO.cls (A := Pa p H trim) (B := [pu (PastOk (List.map stE es) now trim H), cl p 173 [m, .int .u32 now.toNat, .int .u32 trim.toNat], Mp eStr m (List.map kvE es), Ents 176 3 WasM.c es]) (fun S h => ⟨(m, es, now), h⟩) ?_
    exact PO.fin Tryz.results92 (rv_tmp rv_nil) hK
  · cases h -- end
theorem PNow_spec {g : World} {p : Nat} {H : List (List ChgM)} {trim : UInt32} : Spec Tryz.prog g 60 [.pointer (some ⟨p, 0, none⟩)] [Pa p H trim] fun K R => K (.int .u32 (UInt32.ofNat H.length).toNat) (Pa p H trim :: R) := by
  refine Spec.intro Tryz.func60 rfl Tryz.ntmps60 rfl fun R K hK => ?_
  refine WP.seq ?_
  refine WP.reg ?_
  refine WL.e e_assign ?_
  refine WL.next ?_
  refine WP.seq ?_
  refine WP.seq ?_
  refine WP.reg ?_
  refine WL.e e_move ?_
  refine WL.h (h_call (Pthere_spec) k92 ?_)
  refine WL.e e_not ?_
  refine WL.next ?_
  refine WP.cond_f rfl ?_
  refine WP.opn (Pa_op (p := p) (H := H) (trim := trim)) fun x => ?_
  obtain ⟨m, es, now⟩ := x
  dsimp only
  refine WP.pull (φ := PastOk (List.map stE es) now trim H) (k := fun hP => ?_)
  refine WP.skip ?_
  refine PO.next ?_
  refine WP.seq ?_
  refine WP.reg ?_
  refine WL.e e_move <| WL.e e_nil <| WL.e (e_fa f173_1) <| WL.e (e_load a22) <| WL.e e_assign ?_
  refine WL.next ?_
  refine WP.ret ?_
  refine PO.conv (fun S h => pu_stars (show PastOk (List.map stE es) now trim H from hP) h) ?_
  refine PO.cls (A := Pa p H trim) (B := [pu (PastOk (List.map stE es) now trim H), cl p 173 [m, .int .u32 now.toNat, .int .u32 trim.toNat], Mp eStr m (List.map kvE es), Ents 176 3 WasM.c es]) (fun S h => ⟨(m, es, now), h⟩) ?_
  rw [← hP.now_eq] at hK
  exact PO.fin Tryz.results60 (rv_tmp rv_nil) hK
def bwC (x : Nat × WasM) : List Value := [.int .i64 x.1, .agg (WasM.c x.2).toArray]
theorem Backw_spec {g : World} {u : SV} : Spec Tryz.prog g 151 [u.v] [] fun K R => ∀ b, K (.func (.func 183) #[] #[.pointer (some ⟨b, 0, none⟩)]) (cl b 174 [u.v] :: R) := by
  refine Spec.intro Tryz.func151 rfl Tryz.ntmps151 rfl fun R K hK => ?_
  refine WP.seq ?_
  refine WP.reg ?_
  refine WL.h (h_box fun b1 => ?_)
  refine WL.e e_assign ?_
  refine WL.next ?_
  refine WP.seq ?_
  refine WP.reg ?_
  refine WL.e e_makeFunc <| WL.e e_assign ?_
  refine WL.next ?_
  refine WP.ret ?_
  exact PO.fin Tryz.results151 (rv_tmp rv_nil) (hK b1)
theorem backw_iter {g : World} {A : HP} {u : SV} {ws : List WasM} {b : Nat} (hA : RL A 3 WasM.c u.v ws) (hn : ws.length ≤ 68719476736) : Iter Tryz.prog g 183 (fun y => [] ++ [y] ++ [.pointer (some ⟨b, 0, none⟩)]) [cl b 174 [u.v], A] bwC (fun _ => pu True) (fun xs => xs = bwdK ws ws.length) (fun pre => ∃ r, pre ++ r = bwdK ws ws.length) [cl b 174 [u.v], A] := by
  intro y J X cont hy
  refine Spec.intro Tryz.func183 rfl Tryz.ntmps183 rfl fun R K hK => ?_
  refine WP.seq ?_
  refine WP.reg ?_
  refine WL.e (e_load a174) ?_
  refine WL.e (el_len (xs := ws) sl174 hA) <| WL.e (e_sub (c := ((ws.length : Int) - 1)) rfl rfl (by rw [w_i64 (by omega) (by omega)])) <| WL.e e_assign ?_
  refine WL.next ?_
  refine WP.block ?_
  refine WP.loopK (fun (x : Nat × List (Nat × WasM)) => [(3, .int .i64 ((x.1 : Int) - 1))]) (fun (x : Nat × List (Nat × WasM)) => J x.2 :: cl b 174 [u.v] :: A :: R) [(0, _), (1, _)] (fun (x : Nat × List (Nat × WasM)) => x.1 ≤ ws.length ∧ x.2 ++ bwdK ws x.1 = bwdK ws ws.length ∧ Hist cont x.2) (fun (x : Nat × List (Nat × WasM)) => x.1) (ws.length, []) (⟨Nat.le_refl _, rfl, Hist.nil⟩) ?_
  rintro ⟨k, pre⟩ ⟨hk, hp, hh⟩
  simp only at hk hp hh
  dsimp only
  refine WP.seq ?_
  refine WP.seq ?_
  refine WP.reg ?_
  refine WL.e e_move <| WL.e e_geq ?_
  refine WL.next ?_
  refine WP.cond rfl (fun h1 => ?_) (fun h1 => ?_)
  · obtain ⟨j, rfl⟩ : ∃ j, k = j + 1 := ⟨k - 1, by simp at h1; omega⟩
    obtain ⟨w, hw⟩ : ∃ w, ws[j]? = some w := ⟨_, List.getElem?_eq_getElem (by omega)⟩
    have hpj : pre ++ ([(j, w)] ++ bwdK ws j) = bwdK ws ws.length := by rw [← hp]; simp [bwdK, hw]
    rw [show (((j + 1 : Nat) : Int) - 1) = (j : Int) by omega]
    refine WP.skip ?_
    refine PO.next ?_
    refine WP.seq ?_
    refine WP.block ?_
    refine WP.seq ?_
    refine WP.reg ?_
    refine WL.e e_move <| WL.e e_move <| WL.e (e_load a174) <| WL.e e_move ?_
    refine WL.e (el_ia (j := j) (xs := ws) sl174 hA (by omega)) ?_
    refine WL.e (el_loadN (a := w) a176 wasE hA hw) ?_
    refine WL.h (HO.conv (fun S h => pu_stars trivial h) (h_cally (hy pre (j, w) ⟨_, by rw [List.append_assoc]; exact hpj⟩ hh) ?_))
    refine ⟨fun hc => ?_, fun hc => ?_⟩
    · skip
      refine WL.e e_not ?_
      refine WL.next ?_
      refine WP.cond_f rfl ?_
      refine WP.skip ?_
      refine PO.blockN ?_
      refine PO.next ?_
      refine WP.reg ?_
      refine WL.e e_move <| WL.e (e_sub (c := ((j : Int) - 1)) rfl rfl (by rw [w_i64 (by omega) (by omega)])) <| WL.e e_assign ?_
      refine WL.nil ?_
      exact PO.againK (j, pre ++ [(j, w)]) ⟨by simp only; omega, by simp only; rw [List.append_assoc]; exact hpj, hh.snoc hc⟩ (by simp only; omega)
    · skip
      refine WL.e e_not ?_
      refine WL.next ?_
      refine WP.cond_t rfl ?_
      refine WP.ret ?_
      refine PO.blockR ?_
      refine PO.past nofun ?_
      refine PO.round nofun ?_
      refine PO.blockR ?_
      exact PO.fin Tryz.results183 rv_nil (hK.2 pre (j, w) ⟨_, by rw [List.append_assoc]; exact hpj⟩ hh hc)
  · obtain rfl : k = 0 := by simp at h1; omega
    refine WP.exit ?_
    refine PO.past nofun ?_
    refine PO.round nofun ?_
    refine PO.blockX ?_
    exact PO.fin Tryz.results183 rv_nil (hK.1 pre (by simpa [bwdK] using hp) hh)
def FdJ (b1 b2 b3 : Nat) (n : UInt32) : HP := fun S => ∃ _ : Unit, stars [cl b1 22 [.int .u32 n.toNat], cl b2 22 [.int .u32 0], cl b3 4 [.bool false]] S
def FdX (b1 b2 b3 : Nat) (n : UInt32) (w : WasM) (j : Code) : HP := fun S => ∃ _ : { u : Unit // j = .ret }, stars [cl b1 22 [.int .u32 n.toNat], cl b2 22 [.int .u32 w.val.toNat], cl b3 4 [.bool (!w.gone)]] S
theorem find1_spec {g : World} {p : Nat} {A : HP} {m : Value} {now trim : UInt32} {es : List (EntV ByteArray WasM)} (n : UInt32) (k : ByteArray) (hA : RdM A eStr m (List.map kvE es)) (hn : (wsE es k).length ≤ 68719476736) :
    Spec Tryz.prog g 108 [.pointer (some ⟨p, 0, none⟩), .int .u32 n.toNat, .string k] [cl p 173 [m, .int .u32 now.toNat, .int .u32 trim.toNat], A, Ents 176 3 WasM.c es] fun K R => K (.tuple #[.int .u32 (findP (wsE es k) (if n < trim then trim else n)).1.toNat, .bool (findP (wsE es k) (if n < trim then trim else n)).2]) (cl p 173 [m, .int .u32 now.toNat, .int .u32 trim.toNat] :: A :: Ents 176 3 WasM.c es :: R) := by
  refine Spec.intro Tryz.func108 rfl Tryz.ntmps108 rfl fun R K hK => ?_
  refine WP.seq ?_
  refine WP.reg ?_
  refine WL.h (h_box fun b1 => ?_)
  refine WL.h (h_alloc z22 fun b2 => ?_)
  refine WL.h (h_alloc z4 fun b3 => ?_)
  refine WL.next ?_
  refine WP.seq ?_
  refine WP.draws mixedOk 7 ?_
  refine RW.e 0 rfl (e_load a22) <| RW.e 1 rfl e_move <| RW.e 2 rfl e_nil <| RW.e 3 rfl (e_fa f173_2) <| RW.e 4 rfl (e_load a22) <| RW.e 5 rfl e_max32 ?_
  refine RW.any (is := [6]) rfl ⟨?_, trivial⟩
  refine RWat.h' rfl rfl rfl ?_
  refine (h_store s22 ?_)
  refine ⟨trivial, ?_⟩
  refine RW.done ?_
  refine PO.next ?_
  refine WP.seq ?_
  refine WP.seq ?_
  refine WP.reg ?_
  refine WL.e e_move <| WL.e e_nil <| WL.e (e_fa f173_0) <| WL.e (e_load a171) <| WL.e e_move ?_
  refine WL.e (em_lookE (k := k) (es := es) Tryz.underlying171 (key_str Tryz.underlying9) zz174 hA) ?_
  refine WL.h (h_call (Backw_spec (u := svE es k)) k151 ?_)
  intro b4
  refine WL.next ?_
  refine WP.block ?_
  refine WP.cls (A := FdJ b1 b2 b3 (if n < trim then trim else n)) (B := [cl b1 22 [.int .u32 (if n < trim then trim else n).toNat], cl b2 22 [.int .u32 0], cl b3 4 [.bool false]]) (fun S h => ⟨(), h⟩) ?_
  refine WP.range (R := ?RR) (f := 183) (fs := []) (cs := [.pointer (some ⟨b4, 0, none⟩)]) (fun _ => FdJ b1 b2 b3 (if n < trim then trim else n)) (fun _ x => FdX b1 b2 b3 (if n < trim then trim else n) x.2) (fun _ x => ¬ x.2.at_ ≤ (if n < trim then trim else n)) (backw_iter (b := b4) (u := svE es k) (ws := wsE es k) (ents_key (E := 176) k) hn) k183 ?hLL ?_ ?_ ?_ (fun _ => rfl)
  case hLL => repeat first | exact .nil | exact Pick.z | apply Pick.s | apply Split.cons
  · rintro lb db fn tmps pre x R2 hp hh
    refine WP.opn (B := fun _ : Unit => [cl b1 22 [.int .u32 (if n < trim then trim else n).toNat], cl b2 22 [.int .u32 0], cl b3 4 [.bool false]]) (fun _ h => h) fun _ => ?_
    refine WP.reg ?_
    refine WL.h (h_alloc z176 fun b4 => ?_)
    refine WL.h' (h_store s176 ?_)
    refine WL.nil ?_
    refine PO.asg rfl (by repeat first | exact .z | apply Put.s) ?_
    refine WP.block ?_
    refine WP.seq ?_
    refine WP.reg ?_
    refine WL.e (e_fa f176_0) <| WL.e (e_load a22) <| WL.e (e_load a22) <| WL.e e_leq ?_
    refine WL.next ?_
    refine WP.cond rfl (fun h5 => ?_) (fun h5 => ?_)
    · replace h5 : x.2.at_ ≤ (if n < trim then trim else n) := of_le32 h5
      refine WP.seq ?_
      refine WP.draws mixedOk 7 ?_
      refine RW.e 0 rfl (e_fa f176_1) <| RW.e 1 rfl (e_load a22) <| RW.e 2 rfl (e_fa f176_2) <| RW.e 3 rfl (e_load a4) <| RW.e 4 rfl e_not ?_
      refine RW.any (is := [5]) rfl ⟨?_, trivial⟩
      refine RWat.h' rfl rfl rfl ?_
      refine (h_store s22 ?_)
      refine ⟨⟨⟨_, rfl, .inl ⟨rfl, e_not⟩⟩, ⟨_, rfl, .inl ⟨rfl, (e_load a4)⟩⟩, ⟨_, rfl, .inl ⟨rfl, (e_fa f176_2)⟩⟩, trivial⟩, ?_⟩
      refine RW.any (is := [6]) rfl ⟨?_, trivial⟩
      refine RWat.h' rfl rfl rfl ?_
      refine (h_store s4 ?_)
      refine ⟨trivial, ?_⟩
      refine RW.done ?_
      refine PO.next ?_
      refine WP.ret ?_
      refine PO.blockR ?_
      refine PO.cls (A := FdX b1 b2 b3 (if n < trim then trim else n) x.2 .ret) (B := [cl b1 22 [.int .u32 (if n < trim then trim else n).toNat], cl b2 22 [.int .u32 x.2.val.toNat], cl b3 4 [.bool (!x.2.gone)]]) (fun S h => ⟨⟨(), rfl⟩, h⟩) ?_
      exact PO.rnd_ret (fun h => h h5) (by repeat first | exact .refl | exact Pick.z | apply Pick.s | apply Sub.cons | apply Sub.drop)
    · replace h5 : ¬ x.2.at_ ≤ (if n < trim then trim else n) := of_nle32 h5
      refine WP.skip ?_
      refine PO.blockN ?_
      refine PO.cls (A := FdJ b1 b2 b3 (if n < trim then trim else n)) (B := [cl b1 22 [.int .u32 (if n < trim then trim else n).toNat], cl b2 22 [.int .u32 0], cl b3 4 [.bool false]]) (fun S h => ⟨(), h⟩) ?_
      exact PO.rnd h5 (by repeat first | exact .refl | exact Pick.z | apply Pick.s | apply Sub.cons | apply Sub.drop)
  · rintro db xs rfl hh
    have hfp : findP (wsE es k) (if n < trim then trim else n) = (0, false) := findP_none hh
    refine PO.opn (B := fun _ : Unit => [cl b1 22 [.int .u32 (if n < trim then trim else n).toNat], cl b2 22 [.int .u32 0], cl b3 4 [.bool false]]) (fun _ h => h) fun _ => ?_
    refine PO.blockN ?_
    refine PO.next ?_
    refine WP.seq ?_
    refine WP.reg ?_
    refine WL.h' (h_store s22 ?_)
    refine WL.h' (h_store s4 ?_)
    refine WL.next ?_
    refine WP.ret ?_
    rw [hfp] at hK
    exact PO.finM (by repeat first | exact .z | apply Put.s) Tryz.results108 (rv_cell a22 (rv_cell a4 rv_nil)) hK
  · rintro db pre x j hp hh hc
    have hfp : findP (wsE es k) (if n < trim then trim else n) = (x.2.val, !x.2.gone) := findP_some hp hh hc
    refine WP.opn (B := fun sv : { u : Unit // j = .ret } => [cl b1 22 [.int .u32 (if n < trim then trim else n).toNat], cl b2 22 [.int .u32 x.2.val.toNat], cl b3 4 [.bool (!x.2.gone)]]) (fun _ h => h) fun u => ?_
    obtain ⟨_, rfl⟩ := u
    refine WP.ret ?_
    refine PO.blockR ?_
    refine PO.past nofun ?_
    rw [hfp] at hK
    exact PO.finM (by repeat first | exact .z | apply Put.s) Tryz.results108 (rv_cell a22 (rv_cell a4 rv_nil)) hK
theorem PScan_spec {g : World} {p : Nat} {H : List (List ChgM)} {trim : UInt32} (n : UInt32) (sp : SpanM) (most : Nat) (h1 : trim ≤ n) (h2 : n.toNat ≤ H.length) (hb : H.flatten.length ≤ 1000000000) (hb2 : H.length < 4294967295) (hm : most ≤ 68719476000) :
    Spec Tryz.prog g 59 [.pointer (some ⟨p, 0, none⟩), .int .u32 n.toNat, sp.v, .int .i64 most] [Pa p H trim] fun K R => ∀ a m c, K (.slice a m c) (Sl 40 2 RowM.c (.slice a m c) (scanR (rowsN H n.toNat) sp most) :: Pa p H trim :: R) := by
  refine Spec.intro Tryz.func59 rfl Tryz.ntmps59 rfl fun R K hK => ?_
  refine WP.seq ?_
  refine WP.reg ?_
  refine WL.h (h_box fun b1 => ?_)
  refine WL.e e_assign ?_
  refine WL.next ?_
  refine WP.seq ?_
  refine WP.seq ?_
  refine WP.reg ?_
  refine WL.e e_move ?_
  refine WL.h (h_call (Pthere_spec) k92 ?_)
  refine WL.e e_not ?_
  refine WL.next ?_
  refine WP.cond_f rfl ?_
  refine WP.opn (Pa_op (p := p) (H := H) (trim := trim)) fun x => ?_
  obtain ⟨m, es, now⟩ := x
  dsimp only
  refine WP.pull (φ := PastOk (List.map stE es) now trim H) (k := fun hP => ?_)
  have hnow : n ≤ now := by rw [UInt32.le_iff_toNat_le, hP.nowH]; exact h2
  have hes : es.length ≤ 1000000000 := by have := hP.size; rw [List.length_map] at this; omega
  refine WP.skip ?_
  refine PO.next ?_
  refine WP.seq ?_
  refine WP.reg ?_
  refine WL.h (h_call (MNew_spec) k71 ?_)
  intro mp
  refine WL.e e_assign ?_
  refine WL.next ?_
  refine WP.seq ?_
  refine WP.seq ?_
  refine WP.reg ?_
  refine WL.e e_move <| WL.e e_nil <| WL.e (e_fa f173_0) <| WL.e (e_load a171) ?_
  refine WL.h (h_range (kvs := List.map kvE es) Tryz.underlying171 fun it => ?_)
  refine WL.next ?_
  refine WP.block ?_
  refine WP.loopK (fun (x : List (EntV ByteArray WasM) × List RowM × Option (ByteArray × Value)) => []) (fun (x : List (EntV ByteArray WasM) × List RowM × Option (ByteArray × Value)) => cl p 173 [m, .int .u32 now.toNat, .int .u32 trim.toNat] :: MpIt eStr m it (List.map kvE es) (List.map kvE x.1) x.2.2 :: Ents 176 3 WasM.c es :: Mm mp x.2.1 :: cl b1 69 sp.c :: R) [(0, _), (1, _), (3, _), (6, _), (8, _), (9, _), (21, _)] (fun (x : List (EntV ByteArray WasM) × List RowM × Option (ByteArray × Value)) => (∀ y ∈ x.1, y ∈ es) ∧ ScanI (List.map stE es) n (List.map (·.key) x.1) x.2.1 ∧ x.2.1.length + x.1.length ≤ es.length) (fun (x : List (EntV ByteArray WasM) × List RowM × Option (ByteArray × Value)) => x.1.length) (es, [], none) (⟨fun _ h => h, ScanI.first (keys_st es) hP.nodup n, by simp⟩) ?_
  rintro ⟨left, rows, cur⟩ ⟨hx1, hx2, hx3⟩
  simp only at hx1 hx2 hx3
  dsimp only
  refine WP.seq ?_
  refine WP.reg ?_
  refine WL.h (h_next (fun h0 => ?_) (fun a y0 b hx => ?_))
  · have hl0 : left = [] := by simpa using h0
    subst hl0
    have hrows : rows = rowsN H n.toNat := hx2.done hP h1 hnow
    refine WL.e e_extract ?_
    refine WL.next ?_
    refine WP.seq ?_
    refine WP.cond_f rfl ?_
    refine WP.exit ?_
    refine PO.past nofun ?_
    refine PO.round nofun ?_
    refine PO.blockX ?_
    refine PO.next ?_
    refine WP.seq ?_
    refine WP.reg ?_
    refine WL.e e_move <| WL.e (e_loadN a69) <| WL.e e_move ?_
    refine WL.h (h_call (Scan_spec (l := rows) sp most hx2.rising (by omega) hm) k69 ?_)
    intro a9 m9 c9
    rw [hrows]
    refine WL.e e_assign ?_
    refine WL.next ?_
    refine WP.ret ?_
    refine PO.conv (fun S h => pu_stars (show PastOk (List.map stE es) now trim H from hP) h) ?_
    refine PO.cls (A := Pa p H trim) (B := [pu (PastOk (List.map stE es) now trim H), cl p 173 [m, .int .u32 now.toNat, .int .u32 trim.toNat], Mp eStr m (List.map kvE es), Ents 176 3 WasM.c es]) (fun S h => ⟨(m, es, now), h⟩) ?_
    exact PO.fin Tryz.results59 (rv_tmp rv_nil) (hK a9 m9 c9)
  · obtain ⟨A1, y, B1, hl, rfl, rfl, rfl⟩ := map_mid hx
    have hsub : ∀ z ∈ A1 ++ B1, z ∈ es := fun z hz => hx1 z (by rw [hl]; simp only [List.mem_append, List.mem_cons] at hz ⊢; rcases hz with h | h; exact .inl h; exact .inr (.inr h))
    have hyin : y ∈ es := hx1 y (by simp [hl])
    have hnd : (es.map (·.key)).Nodup := by rw [keys_st]; exact hP.nodup
    have hfe := findE_mem hnd hyin
    have hwe : wsE es y.key = y.ws := by unfold wsE; rw [hfe]
    have hgy : getS (List.map stE es) y.key = some y.ws := by rw [getS_st, hfe]; rfl
    have hl2 : List.map (·.key) left = List.map (·.key) A1 ++ y.key :: List.map (·.key) B1 := by rw [hl]; simp
    have hky : keyOk y.key = true := hP.keys (stE y) (List.mem_map.2 ⟨y, hyin, rfl⟩)
    have hlw : y.ws.length ≤ 68719476736 := by have h7 := hP.lens (stE y) (List.mem_map.2 ⟨y, hyin, rfl⟩); have h8 : (stE y).2 = y.ws := rfl; rw [h8] at h7; omega
    refine WL.e e_extract ?_
    refine WL.next ?_
    refine WP.seq ?_
    refine WP.cond_t rfl ?_
    refine WP.skip ?_
    refine PO.next ?_
    refine WP.block ?_
    refine WP.seq ?_
    refine WP.reg ?_
    refine WL.e e_entry <| WL.e e_extract <| WL.e e_assign ?_
    refine WL.next ?_
    refine WP.seq ?_
    refine WP.reg ?_
    refine WL.e e_move <| WL.e e_move <| WL.e e_move ?_
    refine WL.h (h_call (find1_spec (es := es) n y.key mpit_rdm (by rw [hwe]; exact hlw)) k108 ?_)
    rw [hwe, show (if n < trim then trim else n) = n from if_neg (UInt32.not_lt.2 h1)]
    refine WL.e e_move <| WL.e e_extract <| WL.e e_extract <| WL.e e_assign <| WL.e e_assign ?_
    refine WL.next ?_
    refine WP.seq ?_
    refine WP.reg ?_
    refine WL.e e_move ?_
    refine WL.next ?_
    refine WP.cond rfl (fun h9 => ?_) (fun h9 => ?_)
    · skip
      refine WP.reg ?_
      refine WL.e e_move <| WL.e e_move <| WL.e e_move ?_
      refine WL.h (h_call (MPut_spec y.key (findP y.ws n).1 hx2.rising (by omega) hky) k72 ?_)
      refine WL.nil ?_
      refine PO.blockN ?_
      rw [← List.map_append]
      exact PO.againK (A1 ++ B1, setR rows y.key (findP y.ws n).1, _) ⟨hsub, by simp only [List.map_append]; exact hx2.put hl2 hgy h9, by simp only; have := (setR_spec hx2.rising y.key (findP y.ws n).1).2.2; simp only [hl, List.length_append, List.length_cons] at hx3 ⊢; omega⟩ (by simp only [hl, List.length_append, List.length_cons]; omega)
    · skip
      refine WP.skip ?_
      refine PO.blockN ?_
      rw [← List.map_append]
      exact PO.againK (A1 ++ B1, rows, _) ⟨hsub, by simp only [List.map_append]; exact hx2.skip hl2 hgy h9, by simp only; simp only [hl, List.length_append, List.length_cons] at hx3 ⊢; omega⟩ (by simp only [hl, List.length_append, List.length_cons]; omega)
theorem PSince_spec {g : World} {p : Nat} {H : List (List ChgM)} {trim : UInt32} (n : UInt32) (sp : SpanM) (h1 : trim ≤ n) (hb2 : H.length < 4294967295) :
    Spec Tryz.prog g 53 [.pointer (some ⟨p, 0, none⟩), .int .u32 n.toNat, sp.v] [Pa p H trim] fun K R => K (.bool (sinceH H n.toNat sp)) (Pa p H trim :: R) := by
  refine Spec.intro Tryz.func53 rfl Tryz.ntmps53 rfl fun R K hK => ?_
  refine WP.seq ?_
  refine WP.reg ?_
  refine WL.h (h_box fun b1 => ?_)
  refine WL.e e_assign ?_
  refine WL.next ?_
  refine WP.seq ?_
  refine WP.seq ?_
  refine WP.reg ?_
  refine WL.e e_move ?_
  refine WL.h (h_call (Pthere_spec) k92 ?_)
  refine WL.e e_not ?_
  refine WL.next ?_
  refine WP.cond_f rfl ?_
  refine WP.opn (Pa_op (p := p) (H := H) (trim := trim)) fun x => ?_
  obtain ⟨m, es, now⟩ := x
  dsimp only
  refine WP.pull (φ := PastOk (List.map stE es) now trim H) (k := fun hP => ?_)
  refine WP.skip ?_
  refine PO.next ?_
  refine WP.seq ?_
  refine WP.seq ?_
  refine WP.reg ?_
  refine WL.e e_move <| WL.e e_move <| WL.e e_nil <| WL.e (e_fa f173_2) <| WL.e (e_load a22) <| WL.e (e_lss32) ?_
  refine WL.next ?_
  refine WP.cond rfl (fun h3 => ?_) (fun h3 => ?_)
  · exact absurd (of_lt32 h3) (UInt32.not_lt.2 h1)
  · skip
    refine WP.skip ?_
    refine PO.next ?_
    refine WP.seq ?_
    refine WP.seq ?_
    refine WP.reg ?_
    refine WL.e e_move <| WL.e e_nil <| WL.e (e_fa f173_0) <| WL.e (e_load a171) ?_
    refine WL.h (h_range (kvs := List.map kvE es) Tryz.underlying171 fun it => ?_)
    refine WL.next ?_
    refine WP.block ?_
    refine WP.loopK (fun (x : List (EntV ByteArray WasM) × Option (ByteArray × Value)) => []) (fun (x : List (EntV ByteArray WasM) × Option (ByteArray × Value)) => cl p 173 [m, .int .u32 now.toNat, .int .u32 trim.toNat] :: MpIt eStr m it (List.map kvE es) (List.map kvE x.1) x.2 :: Ents 176 3 WasM.c es :: cl b1 69 sp.c :: R) [(1, _), (5, _), (22, _)] (fun (x : List (EntV ByteArray WasM) × Option (ByteArray × Value)) => (∀ y ∈ x.1, y ∈ es) ∧ sinceP (List.map stE x.1) n sp = sinceP (List.map stE es) n sp) (fun (x : List (EntV ByteArray WasM) × Option (ByteArray × Value)) => x.1.length) (es, none) (⟨fun _ h => h, rfl⟩) ?_
    rintro ⟨left, cur⟩ ⟨hx1, hx2⟩
    simp only at hx1 hx2
    dsimp only
    refine WP.seq ?_
    refine WP.reg ?_
    refine WL.h (h_next (fun h0 => ?_) (fun a y0 b hx => ?_))
    · have hl0 : left = [] := by simpa using h0
      subst hl0
      have hfin : sinceH H n.toNat sp = false := by rw [← hP.since, ← hx2]; rfl
      refine WL.e e_extract ?_
      refine WL.next ?_
      refine WP.seq ?_
      refine WP.cond_f rfl ?_
      refine WP.exit ?_
      refine PO.past nofun ?_
      refine PO.round nofun ?_
      refine PO.blockX ?_
      refine PO.next ?_
      refine WP.seq ?_
      refine WP.reg ?_
      refine WL.e e_assign ?_
      refine WL.next ?_
      refine WP.ret ?_
      refine PO.conv (fun S h => pu_stars (show PastOk (List.map stE es) now trim H from hP) h) ?_
      refine PO.cls (A := Pa p H trim) (B := [pu (PastOk (List.map stE es) now trim H), cl p 173 [m, .int .u32 now.toNat, .int .u32 trim.toNat], Mp eStr m (List.map kvE es), Ents 176 3 WasM.c es]) (fun S h => ⟨(m, es, now), h⟩) ?_
      rw [hfin] at hK
      exact PO.fin Tryz.results53 (rv_tmp rv_nil) hK
    · obtain ⟨A1, y, B1, hl, rfl, rfl, rfl⟩ := map_mid hx
      have hsub : ∀ z ∈ A1 ++ B1, z ∈ es := fun z hz => hx1 z (by rw [hl]; simp only [List.mem_append, List.mem_cons] at hz ⊢; rcases hz with h | h; exact .inl h; exact .inr (.inr h))
      have hyin : y ∈ es := hx1 y (by simp [hl])
      have hne : y.ws ≠ [] := hP.ne (stE y) (List.mem_map.2 ⟨y, hyin, rfl⟩)
      have hpos : 0 < y.ws.length := List.length_pos_iff.2 hne
      obtain ⟨w, hw⟩ : ∃ w, y.ws[y.ws.length - 1]? = some w := ⟨_, List.getElem?_eq_getElem (by omega)⟩
      have hlast : lastW y.ws = w.at_ := lastW_at hw
      have hlw : y.ws.length ≤ 68719476736 := by have h7 := hP.lens (stE y) (List.mem_map.2 ⟨y, hyin, rfl⟩); have h8 : (stE y).2 = y.ws := rfl; rw [h8] at h7; omega
      refine WL.e e_extract ?_
      refine WL.next ?_
      refine WP.seq ?_
      refine WP.cond_t rfl ?_
      refine WP.skip ?_
      refine PO.next ?_
      refine WP.block ?_
      refine WP.seq ?_
      refine WP.reg ?_
      refine WL.e e_entry <| WL.e e_extract <| WL.e e_extract <| WL.e e_assign <| WL.e e_assign ?_
      refine WL.next ?_
      refine WP.seq ?_
      refine WP.reg ?_
      refine WL.e e_move <| WL.e e_move ?_
      refine WL.e (el_len (xs := y.ws) (enc := WasM.c) sl174 (ents_rl hyin)) <| WL.e (e_sub (c := ((y.ws.length - 1 : Nat) : Int)) rfl rfl (by rw [w_i64 (by omega) (by omega)]; omega)) ?_
      refine WL.e (el_ia (j := y.ws.length - 1) (xs := y.ws) (enc := WasM.c) sl174 (ents_rl hyin) (by omega)) ?_
      refine WL.e (el_fa (z := 3) (j := y.ws.length - 1) (xs := y.ws) (enc := WasM.c) f176_0 (ents_rl hyin) (by omega)) ?_
      refine WL.e (el_load0 (j := y.ws.length - 1) (a := w) a22 wasE (ents_rl hyin) hw) <| WL.e e_move <| WL.e (e_gtr32) <| WL.e e_move ?_
      refine WL.bool 37 rfl (fun h8 => ?_) (fun h8 => ?_)
      · skip
        refine WL.e e_move <| WL.e e_move <| WL.e (e_build z69 p69 (.o (.tmp 38) rfl <| .o (.tmp 39) rfl <| .n)) <| WL.e (e_loadN a69) ?_
        refine WL.h (h_call (Meet_spec ⟨_, _⟩ ⟨_, _⟩) k63 ?_)
        refine WL.e e_pick_t ?_
        refine WL.next ?_
        refine WP.cond rfl (fun h9 => ?_) (fun h9 => ?_)
        · have hfin : sinceH H n.toNat sp = true := by rw [← hP.since, ← hx2, hl, since_mid, hlast, h8, show meet (one y.key) sp = true from h9]; rfl
          refine WP.seq ?_
          refine WP.reg ?_
          refine WL.e e_assign ?_
          refine WL.next ?_
          refine WP.ret ?_
          refine PO.blockR ?_
          refine PO.round nofun ?_
          refine PO.blockR ?_
          refine PO.past nofun ?_
          refine PO.conv (conv1 (A := MpIt eStr m it (List.map kvE es) _ _) (B := Mp eStr m (List.map kvE es)) MpIt_Mp (by repeat first | exact .z | apply Put.s)) ?_
          refine PO.conv (fun S h => pu_stars (show PastOk (List.map stE es) now trim H from hP) h) ?_
          refine PO.cls (A := Pa p H trim) (B := [pu (PastOk (List.map stE es) now trim H), cl p 173 [m, .int .u32 now.toNat, .int .u32 trim.toNat], Mp eStr m (List.map kvE es), Ents 176 3 WasM.c es]) (fun S h => ⟨(m, es, now), h⟩) ?_
          rw [hfin] at hK
          exact PO.fin Tryz.results53 (rv_tmp rv_nil) hK
        · replace h9 : meet (one y.key) sp = false := h9
          refine WP.skip ?_
          refine PO.blockN ?_
          rw [← List.map_append]
          exact PO.againK (A1 ++ B1, _) ⟨hsub, by simp only; rw [hl, since_mid, hlast, h8] at hx2; rw [← hx2]; simp [h9]⟩ (by simp only [hl, List.length_append, List.length_cons]; omega)
      · skip
        refine WL.skip <| WL.skip <| WL.skip <| WL.skip <| WL.skip <| WL.e e_pick_f ?_
        refine WL.next ?_
        refine WP.cond_f rfl ?_
        refine WP.skip ?_
        refine PO.blockN ?_
        rw [← List.map_append]
        exact PO.againK (A1 ++ B1, _) ⟨hsub, by simp only; rw [hl, since_mid, hlast, h8] at hx2; rw [← hx2]; simp⟩ (by simp only [hl, List.length_append, List.length_cons]; omega)
theorem PTrim_spec {g : World} {p : Nat} {H : List (List ChgM)} {trim : UInt32} (n : UInt32) (h1 : trim ≤ n) (h2 : n.toNat ≤ H.length) (hb2 : H.length < 4294967295) :
    Spec Tryz.prog g 96 [.pointer (some ⟨p, 0, none⟩), .int .u32 n.toNat] [Pa p H trim] fun K R => K (.int .i64 0) (Pa p H n :: R) := by
  refine Spec.intro Tryz.func96 rfl Tryz.ntmps96 rfl fun R K hK => ?_
  refine WP.seq ?_
  refine WP.reg ?_
  refine WL.e e_assign ?_
  refine WL.next ?_
  refine WP.seq ?_
  refine WP.block ?_
  refine WP.seq ?_
  refine WP.reg ?_
  refine WL.e e_move ?_
  refine WL.h (h_call (Pthere_spec) k92 ?_)
  refine WL.e e_not <| WL.e e_assign ?_
  refine WL.next ?_
  refine WP.cond_f rfl ?_
  refine WP.opn (Pa_op (p := p) (H := H) (trim := trim)) fun x => ?_
  obtain ⟨m, es, now⟩ := x
  dsimp only
  refine WP.pull (φ := PastOk (List.map stE es) now trim H) (k := fun hP => ?_)
  have hnow : n ≤ now := by rw [UInt32.le_iff_toNat_le, hP.nowH]; exact h2
  have hnd : (es.map (·.key)).Nodup := by rw [keys_st]; exact hP.nodup
  refine WP.seq ?_
  refine WP.reg ?_
  refine WL.e e_move <| WL.e e_move <| WL.e e_nil <| WL.e (e_fa f173_1) <| WL.e (e_load a22) <| WL.e (e_gtr32) <| WL.e e_move ?_
  refine WL.bool 19 rfl (fun h3 => ?_) (fun h3 => ?_)
  · exact absurd (of_gt32 h3) (UInt32.not_lt.2 hnow) -- end
  · skip
    refine WL.e e_move <| WL.e e_move <| WL.e e_nil <| WL.e (e_fa f173_2) <| WL.e (e_load a22) <| WL.e (e_lss32) <| WL.e e_pick_f <| WL.e e_assign ?_
    refine WL.next ?_
    refine WP.cond rfl (fun h4 => ?_) (fun h4 => ?_)
    · exact absurd (of_lt32 h4) (UInt32.not_lt.2 h1)
    · skip
      refine WP.skip ?_
      refine PO.blockN ?_
      refine PO.next ?_
      refine WP.seq ?_
      refine WP.reg ?_
      refine WL.e e_move <| WL.e e_move <| WL.e e_nil <| WL.e (e_fa f173_2) ?_
      refine WL.h' (h_store s22 ?_)
      refine WL.next ?_
      refine WP.seq ?_
      refine WP.seq ?_
      refine WP.reg ?_
      refine WL.e e_move <| WL.e e_nil <| WL.e (e_fa f173_0) <| WL.e (e_load a171) ?_
      refine WL.h (h_range (kvs := List.map kvE es) Tryz.underlying171 fun it => ?_)
      refine WL.next ?_
      refine WP.block ?_
      refine WP.loopK (fun (x : List (EntV ByteArray WasM) × List (EntV ByteArray WasM) × Option (ByteArray × Value)) => []) (fun (x : List (EntV ByteArray WasM) × List (EntV ByteArray WasM) × Option (ByteArray × Value)) => cl p 173 [m, .int .u32 now.toNat, .int .u32 n.toNat] :: MpIt eStr m it (List.map kvE x.2.1) (List.map kvE x.1) x.2.2 :: Ents 176 3 WasM.c x.2.1 :: R) [(0, _), (1, _), (4, _), (35, _)] (fun (x : List (EntV ByteArray WasM) × List (EntV ByteArray WasM) × Option (ByteArray × Value)) => TrimI es n x.1 x.2.1) (fun (x : List (EntV ByteArray WasM) × List (EntV ByteArray WasM) × Option (ByteArray × Value)) => x.1.length) (es, es, none) (TrimI.first hnd n) ?_
      rintro ⟨left, st, cur⟩ hI
      simp only at hI
      dsimp only
      refine WP.seq ?_
      refine WP.reg ?_
      refine WL.h (h_next (fun h0 => ?_) (fun a y0 b hx => ?_))
      · have hl0 : left = [] := by simpa using h0
        subst hl0
        have hdone := hI.done
        have hP2 := hP.trimmed h1 hnow
        rw [← hdone] at hP2
        refine WL.e e_extract ?_
        refine WL.next ?_
        refine WP.seq ?_
        refine WP.cond_f rfl ?_
        refine WP.exit ?_
        refine PO.past nofun ?_
        refine PO.round nofun ?_
        refine PO.blockX ?_
        refine PO.next ?_
        refine WP.seq ?_
        refine WP.reg ?_
        refine WL.e e_assign ?_
        refine WL.next ?_
        refine WP.ret ?_
        refine PO.conv (fun S h => pu_stars (show PastOk (List.map stE st) now n H from hP2) h) ?_
        refine PO.cls (A := Pa p H n) (B := [pu (PastOk (List.map stE st) now n H), cl p 173 [m, .int .u32 now.toNat, .int .u32 n.toNat], Mp eStr m (List.map kvE st), Ents 176 3 WasM.c st]) (fun S h => ⟨(m, st, now), h⟩) ?_
        exact PO.fin Tryz.results96 (rv_tmp rv_nil) hK
      · obtain ⟨A1, y, B1, hl, rfl, rfl, rfl⟩ := map_mid hx
        have hyin : y ∈ st := hI.sub y (by simp [hl])
        have hye : y ∈ es := hI.old y (by simp [hl])
        have hne : y.ws ≠ [] := hP.ne (stE y) (List.mem_map.2 ⟨y, hye, rfl⟩)
        have hpos : 0 < y.ws.length := List.length_pos_iff.2 hne
        have hlw : y.ws.length ≤ 68719476736 := by have h7 := hP.lens (stE y) (List.mem_map.2 ⟨y, hye, rfl⟩); have h8 : (stE y).2 = y.ws := rfl; rw [h8] at h7; omega
        have hfe := findE_mem hI.nodup hyin
        have hwe : wsE st y.key = y.ws := by unfold wsE; rw [hfe]
        have hse : svE st y.key = y.sv := by unfold svE; rw [hfe]
        refine WL.opn (Ents_take st y.key) fun _ => ?_
        rw [hwe, hse]
        refine WL.e e_extract ?_
        refine WL.next ?_
        refine WP.seq ?_
        refine WP.cond_t rfl ?_
        refine WP.skip ?_
        refine PO.next ?_
        refine WP.block ?_
        refine WP.seq ?_
        refine WP.reg ?_
        refine WL.e e_entry <| WL.e e_extract <| WL.e e_extract <| WL.e e_assign <| WL.e e_assign ?_
        refine WL.next ?_
        refine WP.seq ?_
        refine WP.reg ?_
        refine WL.e e_move ?_
        refine WL.e (el_len (xs := y.ws) (enc := WasM.c) sl174 sl_rl) <| WL.e (e_sub (c := ((y.ws.length - 1 : Nat) : Int)) rfl rfl (by rw [w_i64 (by omega) (by omega)]; omega)) <| WL.e e_assign ?_
        refine WL.next ?_
        refine WP.seq ?_
        refine WP.block ?_
        refine WP.loopK (fun (j : Nat) => [(7, .int .i64 j)]) (fun (j : Nat) => cl p 173 [m, .int .u32 now.toNat, .int .u32 n.toNat] :: MpIt eStr m it (List.map kvE st) (List.map kvE A1 ++ List.map kvE B1) (some (kvE y)) :: Sl 176 3 WasM.c y.sv.v y.ws :: Ents 176 3 WasM.c (delE st y.key) :: R) [(0, _), (1, _), (4, _), (5, _), (6, _), (35, _), (36, _), (37, _), (38, _), (39, _), (40, _), (41, _), (42, _), (43, _)] (fun (j : Nat) => j < y.ws.length ∧ trimI y.ws n j = trimI y.ws n (y.ws.length - 1)) (fun (j : Nat) => j) (y.ws.length - 1) (⟨by omega, rfl⟩) ?_
        rintro j ⟨hj, hj2⟩
        refine WP.seq ?_
        refine WP.seq ?_
        refine WP.reg ?_
        refine WL.e e_move <| WL.e e_gtr <| WL.e e_move ?_
        refine WL.bool 46 rfl (fun h8 => ?_) (fun h8 => ?_)
        · have hpos2 : 0 < j := by simp at h8; omega
          obtain ⟨w, hw2⟩ : ∃ w, y.ws[j]? = some w := ⟨_, List.getElem?_eq_getElem hj⟩
          refine WL.e e_move <| WL.e e_move ?_
          refine WL.e (el_ia (j := j) (xs := y.ws) (enc := WasM.c) sl174 sl_rl hj) ?_
          refine WL.e (el_fa (z := 3) (j := j) (xs := y.ws) (enc := WasM.c) f176_0 sl_rl hj) ?_
          refine WL.e (el_load0 (j := j) (a := w) a22 wasE sl_rl hw2) <| WL.e e_move <| WL.e (e_gtr32) <| WL.e e_pick_t ?_
          refine WL.next ?_
          refine WP.cond rfl (fun h9 => ?_) (fun h9 => ?_)
          · replace h9 := of_gt32 h9
            refine WP.skip ?_
            refine PO.next ?_
            refine WP.block ?_
            refine WP.reg ?_
            refine WL.e e_move <| WL.e (e_sub (c := ((j - 1 : Nat) : Int)) rfl rfl (by rw [w_i64 (by omega) (by omega)]; omega)) <| WL.e e_assign ?_
            refine WL.nil ?_
            refine PO.blockN ?_
            exact PO.againK (j - 1) ⟨by omega, by rw [← hj2]; exact (trimI_step hw2 hpos2 h9).symm⟩ (by omega)
          · replace h9 := of_ngt32 h9
            have hI2 := hI.step hl (j := j) (by unfold trimW; rw [← hj2, trimI_stay hw2 hpos2 h9])
            refine WP.exit ?_
            refine PO.past nofun ?_
            refine PO.round nofun ?_
            refine PO.blockX ?_
            refine PO.next ?_
            refine WP.draws mixedOk 9 ?_
            refine RW.e 0 rfl e_move <| RW.e 1 rfl e_nil <| RW.e 2 rfl (e_fa f173_0) <| RW.e 3 rfl (e_load a171) <| RW.e 4 rfl e_move <| RW.e 5 rfl e_move <| RW.e 6 rfl e_move ?_
            refine RW.e 7 rfl (el_from (lo := j) (xs := y.ws) (enc := WasM.c) sl174 sl_rl (by omega)) ?_
            refine RW.any (is := [8]) rfl ⟨?_, trivial⟩
            refine RWat.h' rfl rfl rfl ?_
            refine HO.conv (conv1 (A := Sl 176 3 WasM.c y.sv.v y.ws) (B := Sl 176 3 WasM.c (subV y.sv.v j y.ws.length none 3) (y.ws.drop j)) (fun S h => sl_from wasE h hj) (by repeat first | exact .z | apply Put.s)) ?_
            refine (h_mapUpdateIt (p := kvE y) Tryz.underlying171 (key_str Tryz.underlying9) (by rw [keys_kv]; exact hI.nodup) ?_)
            refine ⟨trivial, ?_⟩
            refine RW.done ?_
            refine PO.blockN ?_
            refine PO.cls (A := Ents 176 3 WasM.c (setE st y.key (subS y.sv j y.ws.length 3) (y.ws.drop j))) (B := [Sl 176 3 WasM.c (subS y.sv j y.ws.length 3).v (y.ws.drop j), Ents 176 3 WasM.c (delE st y.key)]) (Ents_put st y.key (subS y.sv j y.ws.length 3) (y.ws.drop j)) ?_
            refine PO.conv (conv1 (A := MpIt eStr m it (mset (List.map kvE st) y.key (subS y.sv j y.ws.length 3).v) (List.map kvE A1 ++ List.map kvE B1) none) (B := MpIt eStr m it (List.map kvE (setE st y.key (subS y.sv j y.ws.length 3) (y.ws.drop j))) (List.map kvE (A1 ++ B1)) none) (fun S h => by rw [mset_kvE, ← List.map_append] at h; exact h) (by repeat first | exact .z | apply Put.s)) ?_
            exact PO.againK (A1 ++ B1, (setE st y.key (subS y.sv j y.ws.length 3) (y.ws.drop j)), none) hI2 (by simp only [hl, List.length_append, List.length_cons]; omega)
        · have hj0 : j = 0 := by simp at h8; omega
          have hI2 := hI.step hl (j := j) (by unfold trimW; rw [← hj2, hj0]; simp [trimI])
          refine WL.skip <| WL.skip <| WL.skip <| WL.skip <| WL.skip <| WL.skip <| WL.skip <| WL.e e_pick_f ?_
          refine WL.next ?_
          refine WP.cond_f rfl ?_
          refine WP.exit ?_
          refine PO.past nofun ?_
          refine PO.round nofun ?_
          refine PO.blockX ?_
          refine PO.next ?_
          refine WP.draws mixedOk 9 ?_
          refine RW.e 0 rfl e_move <| RW.e 1 rfl e_nil <| RW.e 2 rfl (e_fa f173_0) <| RW.e 3 rfl (e_load a171) <| RW.e 4 rfl e_move <| RW.e 5 rfl e_move <| RW.e 6 rfl e_move <| RW.e 7 rfl (el_from (lo := j) (xs := y.ws) (enc := WasM.c) sl174 sl_rl (by omega)) ?_
          refine RW.any (is := [8]) rfl ⟨?_, trivial⟩
          refine RWat.h' rfl rfl rfl ?_
          refine HO.conv (conv1 (A := Sl 176 3 WasM.c y.sv.v y.ws) (B := Sl 176 3 WasM.c (subV y.sv.v j y.ws.length none 3) (y.ws.drop j)) (fun S h => sl_from wasE h hj) (by repeat first | exact .z | apply Put.s)) ?_
          refine (h_mapUpdateIt (p := kvE y) Tryz.underlying171 (key_str Tryz.underlying9) (by rw [keys_kv]; exact hI.nodup) ?_)
          refine ⟨trivial, ?_⟩
          refine RW.done ?_
          refine PO.blockN ?_
          refine PO.cls (A := Ents 176 3 WasM.c (setE st y.key (subS y.sv j y.ws.length 3) (y.ws.drop j))) (B := [Sl 176 3 WasM.c (subS y.sv j y.ws.length 3).v (y.ws.drop j), Ents 176 3 WasM.c (delE st y.key)]) (Ents_put st y.key (subS y.sv j y.ws.length 3) (y.ws.drop j)) ?_
          refine PO.conv (conv1 (A := MpIt eStr m it (mset (List.map kvE st) y.key (subS y.sv j y.ws.length 3).v) (List.map kvE A1 ++ List.map kvE B1) none) (B := MpIt eStr m it (List.map kvE (setE st y.key (subS y.sv j y.ws.length 3) (y.ws.drop j))) (List.map kvE (A1 ++ B1)) none) (fun S h => by rw [mset_kvE, ← List.map_append] at h; exact h) (by repeat first | exact .z | apply Put.s)) ?_
          exact PO.againK (A1 ++ B1, (setE st y.key (subS y.sv j y.ws.length 3) (y.ws.drop j)), none) hI2 (by simp only [hl, List.length_append, List.length_cons]; omega)
set_option maxHeartbeats 4000000 in
theorem PCommit_spec {g : World} {p : Nat} {A : HP} {u : Value} {H : List (List ChgM)} {trim : UInt32} {cs : List ChgM} (hA : RL A 3 ChgM.c u cs) (hcs : ∀ c ∈ cs, chgOk c = true) (hn : cs.length ≤ 68719476736) (hb2 : H.length < 1000000000) :
    Spec Tryz.prog g 58 [.pointer (some ⟨p, 0, none⟩), u] [Pa p H trim, A] fun K R => K (.tuple #[.int .u32 (UInt32.ofNat H.length + 1).toNat, .int .i64 0]) (Pa p (H ++ [cs]) trim :: A :: R) := by
  refine Spec.intro Tryz.func58 rfl Tryz.ntmps58 rfl fun R K hK => ?_
  refine WP.seq ?_
  refine WP.reg ?_
  refine WL.e e_assign <| WL.e e_assign ?_
  refine WL.next ?_
  refine WP.seq ?_
  refine WP.seq ?_
  refine WP.reg ?_
  refine WL.e e_move ?_
  refine WL.h (h_call (Pthere_spec) k92 ?_)
  refine WL.e e_not ?_
  refine WL.next ?_
  refine WP.cond_f rfl ?_
  refine WP.skip ?_
  refine PO.next ?_
  refine WP.seq ?_
  refine WP.seq ?_
  refine WP.reg ?_
  refine WL.e e_move ?_
  refine WL.e (el_len (xs := cs) sl103 hA) <| WL.e e_move ?_
  refine WL.next ?_
  refine WP.block ?_
  refine WP.loopK (fun (i : Nat) => [(17, .int .i64 i)]) (fun (i : Nat) => Pa p H trim :: A :: R) [(0, _), (1, _), (15, _), (16, _)] (fun (i : Nat) => i ≤ cs.length) (fun (i : Nat) => cs.length - i) 0 (Nat.zero_le _) ?_
  intro i hi
  refine WP.seq ?_
  refine WP.reg ?_
  refine WL.e e_lss ?_
  refine WL.next ?_
  refine WP.seq ?_
  refine WP.cond rfl (fun h2 => ?_) (fun h2 => ?_)
  · have hlt : i < cs.length := by rw [decide_eq_true_eq] at h2; omega
    obtain ⟨c, hc0⟩ : ∃ c, cs[i]? = some c := ⟨_, List.getElem?_eq_getElem hlt⟩
    have hco := hcs c (List.mem_of_getElem? hc0)
    have hck := chg_key hco
    refine WP.skip ?_
    refine PO.next ?_
    refine WP.seq ?_
    refine WP.block ?_
    refine WP.seq ?_
    refine WP.reg ?_
    refine WL.e (el_ia (xs := cs) sl103 hA hlt) ?_
    refine WL.e (el_loadN (a := c) a108 chgE hA hc0) ?_
    refine WL.h (h_alloc z108 fun b1 => ?_)
    refine WL.h' (h_store s108 ?_)
    refine WL.next ?_
    refine WP.seq ?_
    refine WP.reg ?_
    refine WL.e (e_fa f108_0) <| WL.e (e_load a9) ?_
    refine WL.h (h_call (Check_spec _) k85 ?_)
    refine WL.e e_not <| WL.e e_move ?_
    refine WL.bool 25 rfl (fun g1 => ?_) (fun g1 => ?_)
    · exact absurd g1 (by simp [hck]) -- end
    · skip
      refine WL.e (e_fa f108_2) <| WL.e (e_load a4) <| WL.e e_move ?_
      refine WL.bool 28 rfl (fun g2 => ?_) (fun g2 => ?_)
      · have hv0 := chg_gone hco g2
        refine WL.e (e_fa f108_1) <| WL.e (e_load a22) <| WL.e (e_neq32 (b := 0)) <| WL.e e_pick_t <| WL.e e_pick_f ?_
        refine WL.next ?_
        refine WP.cond rfl (fun g3 => ?_) (fun g3 => ?_)
        · (rw [hv0] at g3; exact absurd g3 (by decide))
        · skip
          refine WP.skip ?_
          refine PO.blockN ?_
          refine PO.next ?_
          refine WP.reg ?_
          refine WL.e (e_add rfl rfl (w_i64 (by omega) (by omega))) <| WL.e e_move ?_
          refine WL.nil ?_
          exact PO.againK (i + 1) (by omega) (by omega)
      · skip
        refine WL.skip <| WL.skip <| WL.skip <| WL.e e_pick_f <| WL.e e_pick_f ?_
        refine WL.next ?_
        refine WP.cond_f rfl ?_
        refine WP.skip ?_
        refine PO.blockN ?_
        refine PO.next ?_
        refine WP.reg ?_
        refine WL.e (e_add rfl rfl (w_i64 (by omega) (by omega))) <| WL.e e_move ?_
        refine WL.nil ?_
        exact PO.againK (i + 1) (by omega) (by omega)
  · refine WP.opn (Pa_op (p := p) (H := H) (trim := trim)) fun x => ?_
    obtain ⟨m, es, now⟩ := x
    dsimp only
    refine WP.pull (φ := PastOk (List.map stE es) now trim H) (k := fun hP => ?_)
    refine WP.exit ?_
    refine PO.past nofun ?_
    refine PO.round nofun ?_
    refine PO.blockX ?_
    refine PO.next ?_
    refine WP.seq ?_
    refine WP.reg ?_
    refine WL.e e_move <| WL.e e_nil <| WL.e (e_fa f173_1) <| WL.e (e_load a22) <| WL.e (e_add32 (b := 1)) <| WL.e e_nil <| WL.e (e_fa f173_1) ?_
    refine WL.h' (h_store s22 ?_)
    refine WL.next ?_
    refine WP.seq ?_
    refine WP.seq ?_
    refine WP.reg ?_
    refine WL.e e_move ?_
    refine WL.e (el_len (xs := cs) sl103 hA) <| WL.e e_move ?_
    refine WL.next ?_
    refine WP.block ?_
    refine WP.loopK (fun (x : Nat × List (EntV ByteArray WasM)) => [(44, .int .i64 x.1)]) (fun (x : Nat × List (EntV ByteArray WasM)) => cl p 173 [m, .int .u32 (now + 1).toNat, .int .u32 trim.toNat] :: Mp eStr m (List.map kvE x.2) :: Ents 176 3 WasM.c x.2 :: A :: R) [(0, _), (42, _), (43, _)] (fun (x : Nat × List (EntV ByteArray WasM)) => x.1 ≤ cs.length ∧ MidOk (List.map stE x.2) now trim H (cs.take x.1)) (fun (x : Nat × List (EntV ByteArray WasM)) => cs.length - x.1) (0, es) (⟨Nat.zero_le _, hP.start (by omega)⟩) ?_
    rintro ⟨i, es⟩ ⟨hi, hM⟩
    simp only at hi hM
    dsimp only
    refine WP.seq ?_
    refine WP.reg ?_
    refine WL.e e_lss ?_
    refine WL.next ?_
    refine WP.seq ?_
    refine WP.cond rfl (fun h3 => ?_) (fun h3 => ?_)
    · have hlt : i < cs.length := by rw [decide_eq_true_eq] at h3; omega
      obtain ⟨c, hc0⟩ : ∃ c, cs[i]? = some c := ⟨_, List.getElem?_eq_getElem hlt⟩
      have hck := chg_key (hcs c (List.mem_of_getElem? hc0))
      have hlen : (wsE es c.key).length ≤ H.length + 1 := hM.len_le c.key
      refine WP.skip ?_
      refine PO.next ?_
      refine WP.seq ?_
      refine WP.block ?_
      refine WP.seq ?_
      refine WP.reg ?_
      refine WL.e (el_ia (xs := cs) sl103 hA hlt) ?_
      refine WL.e (el_loadN (a := c) a108 chgE hA hc0) ?_
      refine WL.h (h_alloc z108 fun b2 => ?_)
      refine WL.h' (h_store s108 ?_)
      refine WL.next ?_
      refine WP.seq ?_
      refine WP.draws mixedOk 8 ?_
      refine RW.e 0 rfl e_move <| RW.e 1 rfl e_nil <| RW.e 2 rfl (e_fa f173_0) <| RW.e 3 rfl (e_load a171) <| RW.e 4 rfl (e_fa f108_0) <| RW.e 5 rfl (e_load a9) ?_
      refine RW.e 6 rfl (em_lookE (k := c.key) (es := es) Tryz.underlying171 (key_str Tryz.underlying9) zz174 mp_rdm) <| RW.e 7 rfl e_assign ?_
      refine RW.done ?_
      refine PO.next ?_
      refine WP.cutR (fun (y : SV × List WasM) => [(10, y.1.v)]) (fun (y : SV × List WasM) => cl p 173 [m, .int .u32 (now + 1).toNat, .int .u32 trim.toNat] :: Mp eStr m (List.map kvE es) :: Sl 176 3 WasM.c y.1.v y.2 :: Ents 176 3 WasM.c (delE es c.key) :: A :: cl b2 108 c.c :: R) [(0, _), (9, _), (42, _), (43, _), (44, _), (45, _), (46, _), (47, _), (48, _), (49, _), (50, _), (51, _), (52, _), (53, _), (54, _)] (fun (y : SV × List WasM) => y.2 ++ [(⟨now + 1, c.val, c.gone⟩ : WasM)] = addW1 (wsE es c.key) (now + 1) c) ?_ ?_
      · skip
        refine WP.seq ?_
        refine WP.reg ?_
        refine WL.e e_move ?_
        refine WL.e (el_len (xs := wsE es c.key) (enc := WasM.c) sl174 (ents_key c.key)) <| WL.e e_assign ?_
        refine WL.next ?_
        refine WP.cutL (fun (y : { y : Bool // y = decide (wsE es c.key ≠ [] ∧ lastW (wsE es c.key) = now + 1) }) => [(71, .bool y.1)]) (fun (y : { y : Bool // y = decide (wsE es c.key ≠ [] ∧ lastW (wsE es c.key) = now + 1) }) => cl p 173 [m, .int .u32 (now + 1).toNat, .int .u32 trim.toNat] :: Mp eStr m (List.map kvE es) :: Ents 176 3 WasM.c es :: A :: cl b2 108 c.c :: R) (fun (y : { y : Bool // y = decide (wsE es c.key ≠ [] ∧ lastW (wsE es c.key) = now + 1) }) => True) ?_ ?_
        · skip
          refine WP.draws mixedOk 15 ?_
          refine RW.e 0 rfl e_move <| RW.e 1 rfl e_gtr <| RW.e 2 rfl e_move ?_
          refine RW.bool 59 rfl (fun h5 => ?_) (fun h5 => ?_)
          · have hpos : 0 < (wsE es c.key).length := by simp at h5; omega
            obtain ⟨w5, hw5⟩ : ∃ w, (wsE es c.key)[(wsE es c.key).length - 1]? = some w := ⟨_, List.getElem?_eq_getElem (by omega)⟩
            refine RW.e 3 rfl e_move <| RW.e 4 rfl e_move <| RW.e 5 rfl (e_sub (c := (((wsE es c.key).length - 1 : Nat) : Int)) rfl rfl (by rw [w_i64 (by omega) (by omega)]; omega)) ?_
            refine RW.e 6 rfl (el_ia (j := (wsE es c.key).length - 1) (xs := wsE es c.key) (enc := WasM.c) sl174 (ents_key c.key) (by omega)) ?_
            refine RW.e 7 rfl (el_fa (z := 3) (j := (wsE es c.key).length - 1) (xs := wsE es c.key) (enc := WasM.c) f176_0 (ents_key c.key) (by omega)) ?_
            refine RW.e 8 rfl (el_load0 (j := (wsE es c.key).length - 1) (a := w5) a22 wasE (ents_key c.key) hw5) <| RW.e 9 rfl e_move <| RW.e 10 rfl e_nil <| RW.e 11 rfl (e_fa f173_1) <| RW.e 12 rfl (e_load a22) <| RW.e 13 rfl (e_eql32) <| RW.e 14 rfl e_pick_t ?_
            refine RW.done ?_
            exact PO.meetK ⟨_, eqlast hw5⟩ trivial
          · have hw0 : wsE es c.key = [] := by cases e : wsE es c.key with
              | nil => rfl
              | cons a b => rw [e] at h5; simp at h5
            refine RW.skip 3 rfl <| RW.skip 4 rfl <| RW.skip 5 rfl <| RW.skip 6 rfl <| RW.skip 7 rfl <| RW.skip 8 rfl <| RW.skip 9 rfl <| RW.skip 10 rfl <| RW.skip 11 rfl <| RW.skip 12 rfl <| RW.skip 13 rfl <| RW.e 14 rfl e_pick_f ?_
            refine RW.done ?_
            exact PO.meetK ⟨false, by simp [hw0]⟩ trivial
        · rintro ⟨y, hy⟩ _
          dsimp only
          refine WP.cond rfl (fun h6 => ?_) (fun h6 => ?_)
          · have hy5 := of_decide_eq_true (hy.symm.trans h6)
            have hpos : 0 < (wsE es c.key).length := List.length_pos_iff.2 hy5.1
            refine WP.reg ?_
            refine WL.e e_move <| WL.e e_move <| WL.e (e_sub (c := (((wsE es c.key).length - 1 : Nat) : Int)) rfl rfl (by rw [w_i64 (by omega) (by omega)]; omega)) <| WL.e e_move <| WL.e (e_sub (c := (((wsE es c.key).length - 1 : Nat) : Int)) rfl rfl (by rw [w_i64 (by omega) (by omega)]; omega)) ?_
            refine WL.e (el_to3 (hi := (wsE es c.key).length - 1) (xs := wsE es c.key) (enc := WasM.c) sl174 (ents_key c.key) (by omega)) <| WL.e e_assign ?_
            refine WL.nil ?_
            refine PO.opn (Ents_take es c.key) fun _ => ?_
            refine PO.conv (conv1 (A := Sl 176 3 WasM.c (svE es c.key).v (wsE es c.key)) (B := Sl 176 3 WasM.c (subV (svE es c.key).v 0 ((wsE es c.key).length - 1) (some ((wsE es c.key).length - 1)) 3) ((wsE es c.key).take ((wsE es c.key).length - 1))) (fun S h => sl_to3 wasE h (by omega)) (by repeat first | exact .z | apply Put.s)) ?_
            refine PO.sh (u := subV (svE es c.key).v 0 ((wsE es c.key).length - 1) (some ((wsE es c.key).length - 1)) 3) fun a9 m9 c9 e9 => ?_
            rw [e9]
            exact PO.meetK (⟨a9, m9, c9⟩, (wsE es c.key).take ((wsE es c.key).length - 1)) (by simp only; unfold addW1; rw [if_pos hy5, List.dropLast_eq_take])
          · have hy5 := of_decide_eq_false (hy.symm.trans h6)
            refine WP.skip ?_
            refine PO.opn (Ents_take es c.key) fun _ => ?_
            exact PO.meetK (svE es c.key, wsE es c.key) (by simp only; unfold addW1; rw [if_neg hy5])
      · rintro ⟨w1, ws1⟩ hws1
        simp only at hws1
        dsimp only
        have hwl : ws1.length ≤ 1000000000 := by have h7 := congrArg List.length hws1; rw [List.length_append, List.length_singleton] at h7; have h8 := addW1_len (wsE es c.key) (now + 1) c; omega
        refine WP.draws mixedOk 19 ?_
        refine RW.e 0 rfl e_move <| RW.e 1 rfl e_nil <| RW.e 2 rfl (e_fa f173_0) <| RW.e 3 rfl (e_load a171) <| RW.e 4 rfl (e_fa f108_0) <| RW.e 5 rfl (e_load a9) <| RW.e 6 rfl e_move <| RW.e 7 rfl e_move <| RW.e 8 rfl e_nil <| RW.e 9 rfl (e_fa f173_1) <| RW.e 10 rfl (e_load a22) <| RW.e 11 rfl (e_fa f108_1) ?_
        refine RW.e 12 rfl (e_load a22) <| RW.e 13 rfl (e_fa f108_2) <| RW.e 14 rfl (e_load a4) <| RW.e 15 rfl (e_build z176 p176 (.o (.tmp 88) rfl <| .o (.tmp 90) rfl <| .o (.tmp 92) rfl <| .n)) ?_
        refine RW.any (is := [16]) rfl ⟨?_, trivial⟩
        refine RWat.h rfl rfl rfl ?_
        refine (h_bs sl174 z176 (.a3 (.tmp 93) rfl <| .n) fun b3 => ?_)
        refine ⟨⟨⟨_, rfl, .inl ⟨rfl, e_move⟩⟩, ⟨_, rfl, .inl ⟨rfl, (e_load a9)⟩⟩, ⟨_, rfl, .inl ⟨rfl, (e_fa f108_0)⟩⟩, ⟨_, rfl, .inl ⟨rfl, (e_load a171)⟩⟩, ⟨_, rfl, .inl ⟨rfl, (e_fa f173_0)⟩⟩, ⟨_, rfl, .inl ⟨rfl, e_nil⟩⟩, ⟨_, rfl, .inl ⟨rfl, e_move⟩⟩, trivial⟩, ?_⟩
        refine RW.any (is := [17]) rfl ⟨?_, trivial⟩
        refine RWat.h rfl rfl rfl ?_
        refine (hl_append (xs := ws1) (ys := [(⟨now + 1, c.val, c.gone⟩ : WasM)]) sl174 wasE z176 (lit_rl wasE [(⟨now + 1, c.val, c.gone⟩ : WasM)] rfl) (by simp; omega) (fun a5 n5 c5 => ?_))
        refine ⟨⟨⟨_, rfl, .inl ⟨rfl, (e_load a9)⟩⟩, ⟨_, rfl, .inl ⟨rfl, (e_fa f108_0)⟩⟩, ⟨_, rfl, .inl ⟨rfl, (e_load a171)⟩⟩, ⟨_, rfl, .inl ⟨rfl, (e_fa f173_0)⟩⟩, ⟨_, rfl, .inl ⟨rfl, e_nil⟩⟩, ⟨_, rfl, .inl ⟨rfl, e_move⟩⟩, trivial⟩, ?_⟩
        refine RW.any (is := [18]) rfl ⟨?_, trivial⟩
        refine RWat.h' rfl rfl rfl ?_
        refine (h_mapUpdate (k := c.key) (kvs := List.map kvE es) Tryz.underlying171 (key_str Tryz.underlying9) ?_)
        refine ⟨trivial, ?_⟩
        refine RW.done ?_
        refine PO.blockN ?_
        refine PO.next ?_
        refine WP.reg ?_
        refine WL.e (e_add rfl rfl (w_i64 (by omega) (by omega))) <| WL.e e_move ?_
        refine WL.nil ?_
        rw [show ws1 ++ [(⟨now + 1, c.val, c.gone⟩ : WasM)] = addW1 (wsE es c.key) (now + 1) c from hws1, show mset (List.map kvE es) c.key (.slice a5 n5 c5) = List.map kvE (setE es c.key ⟨a5, n5, c5⟩ (addW1 (wsE es c.key) (now + 1) c)) from mset_kvE es c.key ⟨a5, n5, c5⟩ _]
        refine PO.cls (A := Ents 176 3 WasM.c (setE es c.key ⟨a5, n5, c5⟩ (addW1 (wsE es c.key) (now + 1) c))) (B := [Sl 176 3 WasM.c (.slice a5 n5 c5) (addW1 (wsE es c.key) (now + 1) c), Ents 176 3 WasM.c (delE es c.key)]) (Ents_put es c.key ⟨a5, n5, c5⟩ (addW1 (wsE es c.key) (now + 1) c)) ?_
        exact PO.againK (i + 1, (setE es c.key ⟨a5, n5, c5⟩ (addW1 (wsE es c.key) (now + 1) c))) ⟨by simp only; omega, by simp only; rw [putS_ents, take_snoc hc0]; exact hM.step hP.nowH (by omega) c hck⟩ (by simp only; omega)
    · obtain rfl : i = cs.length := by rw [decide_eq_false_iff_not] at h3; omega
      rw [List.take_length] at hM
      have hP2 := hM.done hP (by omega)
      refine WP.exit ?_
      refine PO.past nofun ?_
      refine PO.round nofun ?_
      refine PO.blockX ?_
      refine PO.next ?_
      refine WP.seq ?_
      refine WP.reg ?_
      refine WL.e e_move <| WL.e e_nil <| WL.e (e_fa f173_1) <| WL.e (e_load a22) <| WL.e e_assign <| WL.e e_assign ?_
      refine WL.next ?_
      refine WP.ret ?_
      refine PO.conv (fun S h => pu_stars (show PastOk (List.map stE es) (now + 1) trim (H ++ [cs]) from hP2) h) ?_
      refine PO.cls (A := Pa p ((H ++ [cs])) trim) (B := [pu (PastOk (List.map stE es) (now + 1) trim (H ++ [cs])), cl p 173 [m, .int .u32 (now + 1).toNat, .int .u32 trim.toNat], Mp eStr m (List.map kvE es), Ents 176 3 WasM.c es]) (fun S h => ⟨(m, es, (now + 1)), h⟩) ?_
      rw [← hP.now_eq] at hK
      exact PO.fin Tryz.results58 (rv_tmp (rv_tmp rv_nil)) hK
end Go.SL

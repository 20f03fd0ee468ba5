/- W5 M6 W6 SLp M7: rules and walks, several texts in one. -/
import Derived.Test.YtdpmpcoekkhceaaGreatQC7
import Derived.Test.YtdpmpcoekkhceaaGreatProg
import Derived.KernelRfl
set_option linter.unusedSimpArgs false
set_option linter.unusedVariables false
namespace Go.SL.W5
open Go Go.Proofs Go.SL
theorem a114 : aggOf Tryz.prog 114 = some none := by kernel_rfl
theorem a155 : aggOf Tryz.prog 155 = some none := by kernel_rfl
theorem a23 : aggOf Tryz.prog 23 = some none := by kernel_rfl
theorem a3 : aggOf Tryz.prog 3 = some none := by kernel_rfl
theorem a96 : aggOf Tryz.prog 96 = some none := by kernel_rfl
theorem f191_0 : fldOf Tryz.prog 191 0 = some 0 := by kernel_rfl
theorem f191_1 : fldOf Tryz.prog 191 1 = some 1 := by kernel_rfl
theorem f193_0 : fldOf Tryz.prog 193 0 = some 0 := by kernel_rfl
theorem k103 : callable Tryz.prog 103 = true := by kernel_rfl
theorem k104 : callable Tryz.prog 104 = true := by kernel_rfl
theorem k105 : callable Tryz.prog 105 = true := by kernel_rfl
theorem k106 : callable Tryz.prog 106 = true := by kernel_rfl
theorem k107 : callable Tryz.prog 107 = true := by kernel_rfl
theorem k131 : callable Tryz.prog 131 = true := by kernel_rfl
theorem k132 : callable Tryz.prog 132 = true := by kernel_rfl
theorem k133 : callable Tryz.prog 133 = true := by kernel_rfl
theorem k164 : callable Tryz.prog 164 = true := by kernel_rfl
theorem k165 : callable Tryz.prog 165 = true := by kernel_rfl
theorem k78 : callable Tryz.prog 78 = true := by kernel_rfl
theorem mixedOk : Tryz.prog.follows .mixedOrders = true := by kernel_rfl
theorem p191 : placesOf Tryz.prog 191 = some [(0, 1), (1, 1)] := by kernel_rfl
theorem p193 : placesOf Tryz.prog 193 = some [(0, 2)] := by kernel_rfl
theorem pt23 : isPtr Tryz.prog 23 = true := by kernel_rfl
theorem pt96 : isPtr Tryz.prog 96 = true := by kernel_rfl
theorem s114 : szOf Tryz.prog 114 = some 1 := by kernel_rfl
theorem s155 : szOf Tryz.prog 155 = some 1 := by kernel_rfl
theorem s3 : szOf Tryz.prog 3 = some 1 := by kernel_rfl
theorem s96 : szOf Tryz.prog 96 = some 1 := by kernel_rfl
theorem sl114 : slOf Tryz.prog 114 = some (5, 1, 1) := by kernel_rfl
theorem sl155 : slOf Tryz.prog 155 = some (114, 1, 24) := by kernel_rfl
theorem z114 : zeroOf Tryz.prog 114 = some [.slice none 0 0] := by kernel_rfl
theorem z155 : zeroOf Tryz.prog 155 = some [.slice none 0 0] := by kernel_rfl
theorem z191 : zeroOf Tryz.prog 191 = some [.pointer none, .int .i64 0] := by kernel_rfl
theorem z193 : zeroOf Tryz.prog 193 = some [.pointer none, .int .i64 0] := by kernel_rfl
theorem z5 : zeroOf Tryz.prog 5 = some [.int .u8 0] := by kernel_rfl
theorem z96 : zeroOf Tryz.prog 96 = some [.pointer none] := by kernel_rfl
end Go.SL.W5
namespace Go.SL
open Go Go.Proofs W5
theorem there_spec {g : World} {l p i : Nat} : Spec Tryz.prog g 103 [.pointer (some ⟨l, 0, none⟩)] [cl l 193 [.pointer (some ⟨p, 0, none⟩), .int .i64 i]] fun K R => K (.bool true) (cl l 193 [.pointer (some ⟨p, 0, none⟩), .int .i64 i] :: R) := by
  refine Spec.intro Tryz.func103 rfl Tryz.ntmps103 rfl fun R K hK => ?_
  refine WP.seq ?_
  refine WP.reg ?_
  refine WL.e e_assign ?_
  refine WL.next ?_
  refine WP.seq ?_
  refine WP.reg ?_
  refine WL.e e_move <| WL.e (e_pne pt96) <| WL.e e_move ?_
  refine WL.bool 5 rfl (fun h => ?_) (fun h => ?_)
  · skip
    refine WL.e e_move <| WL.e e_nil <| WL.e (e_fa f193_0) <| WL.e (e_fa f191_0) <| WL.e (e_load a23) <| WL.e (e_pne pt23) <| WL.e e_pick_t <| WL.e e_assign ?_
    refine WL.next ?_
    refine WP.ret ?_
    exact PO.fin Tryz.results103 (rv_tmp rv_nil) hK
  · cases h -- end
theorem left_spec {g : World} {l p i : Nat} {d : DiskM} (hi : i ≤ d.sure.length) (hl : d.sure.length ≤ 4096) : Spec Tryz.prog g 105 [.pointer (some ⟨l, 0, none⟩)] [cl l 193 [.pointer (some ⟨p, 0, none⟩), .int .i64 i], Dk p d] fun K R => K (.int .i64 (d.sure.length - i : Nat)) (cl l 193 [.pointer (some ⟨p, 0, none⟩), .int .i64 i] :: Dk p d :: R) := by
  refine Spec.intro Tryz.func105 rfl Tryz.ntmps105 rfl fun R K hK => ?_
  refine WP.seq ?_
  refine WP.reg ?_
  refine WL.e e_assign ?_
  refine WL.next ?_
  refine WP.seq ?_
  refine WP.draws mixedOk 11 ?_
  refine RW.e 0 rfl e_move <| RW.e 1 rfl e_nil <| RW.e 2 rfl (e_fa f191_0) <| RW.e 3 rfl (e_load a23) <| RW.e 5 rfl e_move <| RW.e 6 rfl e_nil <| RW.e 7 rfl (e_fa f191_1) <| RW.e 8 rfl (e_load a3) ?_
  refine RW.any (is := [4]) rfl ⟨?_, trivial⟩
  refine RWat.h rfl rfl rfl ?_
  refine (h_call (Size_spec) k78 ?_)
  refine ⟨⟨⟨_, rfl, .inl ⟨rfl, (e_load a3)⟩⟩, ⟨_, rfl, .inl ⟨rfl, (e_fa f191_1)⟩⟩, ⟨_, rfl, .inl ⟨rfl, e_nil⟩⟩, ⟨_, rfl, .inl ⟨rfl, e_move⟩⟩, trivial⟩, ?_⟩
  refine RW.e 9 rfl (e_sub (c := ((d.sure.length - i : Nat) : Int)) rfl rfl (by rw [w_i64 (by omega) (by omega)]; omega)) <| RW.e 10 rfl e_assign ?_
  refine RW.done ?_
  refine PO.next ?_
  refine WP.ret ?_
  exact PO.fin Tryz.results105 (rv_tmp rv_nil) hK
theorem Force_spec {g : World} {l p i : Nat} {d : DiskM} (hd : d.ok) : Spec Tryz.prog g 57 [.pointer (some ⟨l, 0, none⟩)] [cl l 193 [.pointer (some ⟨p, 0, none⟩), .int .i64 i], Dk p d] fun K R => K (.int .i64 0) (cl l 193 [.pointer (some ⟨p, 0, none⟩), .int .i64 i] :: Dk p d.sync :: R) := by
  refine Spec.intro Tryz.func57 rfl Tryz.ntmps57 rfl fun R K hK => ?_
  refine WP.seq ?_
  refine WP.reg ?_
  refine WL.e e_assign ?_
  refine WL.next ?_
  refine WP.seq ?_
  refine WP.seq ?_
  refine WP.reg ?_
  refine WL.e e_move ?_
  refine WL.h (h_call (there_spec) k103 ?_)
  refine WL.e e_not ?_
  refine WL.next ?_
  refine WP.cond_f rfl ?_
  refine WP.skip ?_
  refine PO.next ?_
  refine WP.seq ?_
  refine WP.reg ?_
  refine WL.e e_move <| WL.e e_nil <| WL.e (e_fa f193_0) <| WL.e (e_fa f191_0) <| WL.e (e_load a23) ?_
  refine WL.h (h_call (Sync_spec hd.pos hd.len) k107 ?_)
  refine WL.e e_assign ?_
  refine WL.next ?_
  refine WP.ret ?_
  exact PO.fin Tryz.results57 (rv_tmp rv_nil) hK
theorem Add_spec {g : World} {A : HP} {l p i : Nat} {d : DiskM} {u : Value} {b : List UInt8} (hA : RL A 1 eB u b) (hd : d.ok) (hi : i ≤ d.sure.length) (hw : d.waits.length < 4000000000) :
    Spec Tryz.prog g 56 [.pointer (some ⟨l, 0, none⟩), u] [cl l 193 [.pointer (some ⟨p, 0, none⟩), .int .i64 i], Dk p d, A] fun K R => (16384 < b.length → K (.int .i64 3) (cl l 193 [.pointer (some ⟨p, 0, none⟩), .int .i64 i] :: Dk p d :: A :: R)) ∧ (b.length ≤ 16384 → d.sure.length < i + secs b.length → K (.int .i64 5) (cl l 193 [.pointer (some ⟨p, 0, none⟩), .int .i64 i] :: Dk p d :: A :: R)) ∧
      (b.length ≤ 16384 → i + secs b.length ≤ d.sure.length → K (.int .i64 0) (cl l 193 [.pointer (some ⟨p, 0, none⟩), .int .i64 (i + secs b.length : Nat)] :: Dk p (addW d i (frame b) (secs b.length)) :: A :: R)) := by
  refine Spec.intro Tryz.func56 rfl Tryz.ntmps56 rfl fun R K hK => ?_
  refine WP.seq ?_
  refine WP.reg ?_
  refine WL.e e_assign ?_
  refine WL.next ?_
  refine WP.seq ?_
  refine WP.seq ?_
  refine WP.reg ?_
  refine WL.e e_move ?_
  refine WL.h (h_call (there_spec) k103 ?_)
  refine WL.e e_not ?_
  refine WL.next ?_
  refine WP.cond_f rfl ?_
  refine WP.skip ?_
  refine PO.next ?_
  refine WP.seq ?_
  refine WP.reg ?_
  refine WL.e e_move ?_
  refine WL.h (h_call (Put_spec hA) k104 ?_)
  refine ⟨fun h1 => ?_, fun h1 a1 n1 c1 => ?_⟩
  · skip
    refine WL.e e_move <| WL.e e_extract <| WL.e e_extract <| WL.e e_assign <| WL.e e_assign ?_
    refine WL.next ?_
    refine WP.seq ?_
    refine WP.block ?_
    refine WP.seq ?_
    refine WP.reg ?_
    refine WL.e e_move <| WL.e e_neq <| WL.e e_assign ?_
    refine WL.next ?_
    refine WP.cond_t rfl ?_
    refine WP.seq ?_
    refine WP.reg ?_
    refine WL.e e_move <| WL.e e_assign ?_
    refine WL.next ?_
    refine WP.ret ?_
    refine PO.blockR ?_
    refine PO.past nofun ?_
    exact PO.fin Tryz.results56 (rv_tmp rv_nil) (hK.1 h1)
  · have hdl := hd.le
    have hs1 := secs_le b.length
    have hs2 := secs_ub b.length
    refine WL.e e_move <| WL.e e_extract <| WL.e e_extract <| WL.e e_assign <| WL.e e_assign ?_
    refine WL.next ?_
    refine WP.seq ?_
    refine WP.block ?_
    refine WP.seq ?_
    refine WP.reg ?_
    refine WL.e e_move <| WL.e e_neq <| WL.e e_assign ?_
    refine WL.next ?_
    refine WP.cond_f rfl ?_
    refine WP.seq ?_
    refine WP.reg ?_
    refine WL.e e_move ?_
    refine WL.e (el_len (xs := frame b) sl114 sl_rl) <| WL.e e_move <| WL.e e_nil <| WL.e (e_fa f193_0) ?_
    refine WL.h (h_call (left_spec (d := d) hi hd.le) k105 ?_)
    refine WL.e (e_mul (c := (((d.sure.length - i) * 64 : Nat) : Int)) rfl rfl (by rw [w_i64 (by omega) (by omega)]; omega)) <| WL.e e_gtr <| WL.e e_assign ?_
    refine WL.next ?_
    refine WP.cond rfl (fun h2 => ?_) (fun h2 => ?_)
    · replace h2 : d.sure.length < i + secs b.length := by rw [decide_eq_true_eq, frame_len] at h2; omega
      refine WP.seq ?_
      refine WP.reg ?_
      refine WL.e e_assign ?_
      refine WL.next ?_
      refine WP.ret ?_
      refine PO.blockR ?_
      refine PO.past nofun ?_
      exact PO.fin Tryz.results56 (rv_tmp rv_nil) (hK.2.1 h1 h2)
    · replace h2 : i + secs b.length ≤ d.sure.length := by rw [decide_eq_false_iff_not, frame_len] at h2; omega
      refine WP.skip ?_
      refine PO.blockN ?_
      refine PO.next ?_
      refine WP.seq ?_
      refine WP.block ?_
      refine WP.loopK (fun (x : Value × List UInt8 × Nat × Nat × DiskM) => [(5, x.1)]) (fun (x : Value × List UInt8 × Nat × Nat × DiskM) => cl l 193 [.pointer (some ⟨p, 0, none⟩), .int .i64 x.2.2.2.1] :: Dk p x.2.2.2.2 :: Sl 5 1 eB (.slice a1 n1 c1) (frame b) :: A :: R) [(0, _), (4, _)] (fun (x : Value × List UInt8 × Nat × Nat × DiskM) => RL (Sl 5 1 eB (.slice a1 n1 c1) (frame b)) 1 eB x.1 x.2.1 ∧ x.2.1.length = x.2.2.1 * 64 ∧ addW x.2.2.2.2 x.2.2.2.1 x.2.1 x.2.2.1 = addW d i (frame b) (secs b.length) ∧ x.2.2.2.1 + x.2.2.1 = i + secs b.length ∧ x.2.2.2.2.ok ∧ x.2.2.2.2.sure = d.sure ∧ x.2.2.2.2.waits.length + x.2.2.1 = d.waits.length + secs b.length) (fun (x : Value × List UInt8 × Nat × Nat × DiskM) => x.2.2.1) (.slice a1 n1 c1, frame b, secs b.length, i, d) (⟨sl_rl, frame_len b, rfl, rfl, hd, rfl, rfl⟩) ?_
      rintro ⟨w, bs, k, j, e⟩ ⟨hr, hl, he, hj, hok, hsu, hwt⟩
      simp only at hr hl he hj hok hsu hwt
      dsimp only
      refine WP.seq ?_
      refine WP.seq ?_
      refine WP.reg ?_
      refine WL.e e_move ?_
      refine WL.e (el_len sl114 hr) <| WL.e e_gtr ?_
      refine WL.next ?_
      refine WP.cond rfl (fun h3 => ?_) (fun h3 => ?_)
      · obtain ⟨m, rfl⟩ : ∃ m, k = m + 1 := ⟨k - 1, by rw [decide_eq_true_eq] at h3; omega⟩
        refine WP.skip ?_
        refine PO.next ?_
        refine WP.seq ?_
        refine WP.block ?_
        refine WP.seq ?_
        refine WP.draws mixedOk 13 ?_
        refine RW.e 0 rfl e_move <| RW.e 1 rfl e_nil <| RW.e 2 rfl (e_fa f193_0) <| RW.e 3 rfl (e_fa f191_0) <| RW.e 4 rfl (e_load a23) <| RW.e 5 rfl e_move <| RW.e 6 rfl e_nil <| RW.e 7 rfl (e_fa f193_0) <| RW.e 8 rfl (e_fa f191_1) <| RW.e 9 rfl (e_load a3) <| RW.e 10 rfl e_move ?_
        refine RW.e 11 rfl (el_to (hi := 64) sl114 hr (by omega)) ?_
        refine RW.any (is := [12]) rfl ⟨?_, trivial⟩
        refine RWat.h rfl rfl rfl ?_
        refine (h_call (Write_spec (d := e) (b := bs.take 64) j (RL.to_ (hi := 64) eB_ok hr (by omega)) (by rw [hsu]; omega) hok.len hok.le (by simp; omega) (by omega)) k106 ?_)
        refine ⟨trivial, ?_⟩
        refine RW.done ?_
        refine PO.next ?_
        refine WP.reg ?_
        refine WL.e e_move <| WL.e e_nil <| WL.e (e_fa f193_0) <| WL.e (e_fa f191_1) <| WL.e (e_load a3) <| WL.e (e_add (c := ((j + 1 : Nat) : Int)) rfl rfl (by rw [w_i64 (by omega) (by omega)]; omega)) <| WL.e e_nil <| WL.e (e_fa f193_0) <| WL.e (e_fa f191_1) ?_
        refine WL.h' (h_store s3 ?_)
        refine WL.nil ?_
        refine PO.blockN ?_
        refine PO.next ?_
        refine WP.reg ?_
        refine WL.e e_move ?_
        refine WL.e (el_from (lo := 64) sl114 hr (by omega)) <| WL.e e_assign ?_
        refine WL.nil ?_
        exact PO.againK (subV w 64 bs.length none 1, bs.drop 64, m, j + 1, e.write j (bs.take 64)) ⟨RL.from_ eB_ok hr (by omega), by simp; omega, he, by simp only; omega, hok.write _ _, hsu, by simp [DiskM.write]; omega⟩ (by simp only; omega)
      · obtain rfl : k = 0 := by rw [decide_eq_false_iff_not] at h3; omega
        obtain rfl : j = i + secs b.length := by omega
        simp only [addW] at he
        subst he
        refine WP.exit ?_
        refine PO.past nofun ?_
        refine PO.round nofun ?_
        refine PO.blockX ?_
        refine PO.next ?_
        refine WP.seq ?_
        refine WP.reg ?_
        refine WL.e e_assign ?_
        refine WL.next ?_
        refine WP.ret ?_
        exact PO.fin Tryz.results56 (rv_tmp rv_nil) (hK.2.2 h1 h2)
/-- A record that is told: its slice, its bytes, its sectors. -/
abbrev RecV := SV × List UInt8 × Nat
def recE (x : RecV) : List Value := [x.1.v, .int .i64 x.2.2]
def recR (x : RecV) : HP := Sl 5 1 eB x.1.v x.2.1
theorem found_iter {g : World} {A : HP} {c1 : Nat} {w : SV} {b : List UInt8} (hA : RL A 1 eB w.v b) (hb : b.length ≤ 68719476736) :
    Iter Tryz.prog g 164 (fun y => [] ++ [y] ++ [.pointer (some ⟨c1, 0, none⟩)]) [cl c1 114 [w.v], A] recE recR (fun xs => xs.map (·.2) = recs b) (fun pre => pre.map (·.2) <+: recs b) [A] := by
  intro y J X cont hy
  refine Spec.intro Tryz.func164 rfl Tryz.ntmps164 rfl fun R K hK => ?_
  refine WP.block ?_
  refine WP.loopK (fun (x : SV × List UInt8 × List RecV) => []) (fun (x : SV × List UInt8 × List RecV) => J x.2.2 :: cl c1 114 [x.1.v] :: A :: R) [(0, _), (1, _)] (fun (x : SV × List UInt8 × List RecV) => RL A 1 eB x.1.v x.2.1 ∧ x.2.1.length ≤ b.length ∧ x.2.2.map (·.2) ++ recs x.2.1 = recs b ∧ Hist cont x.2.2) (fun (x : SV × List UInt8 × List RecV) => x.2.1.length) (w, b, []) (⟨hA, Nat.le_refl _, rfl, Hist.nil⟩) ?_
  rintro ⟨w1, b1, pre⟩ ⟨hr, hl, he, hh⟩
  simp only at hr hl he hh
  dsimp only
  refine WP.block ?_
  refine WP.seq ?_
  refine WP.reg ?_
  refine WL.e (e_load a114) ?_
  refine WL.h (h_call (Get_spec hr (by omega)) k165 ?_)
  refine ⟨fun hg => ?_, fun r m hg a2 n2 c2 => ?_⟩
  · skip
    refine WL.e e_move <| WL.e e_extract <| WL.e e_extract <| WL.e e_extract <| WL.e e_assign <| WL.e e_assign <| WL.e e_assign ?_
    refine WL.next ?_
    refine WP.seq ?_
    refine WP.seq ?_
    refine WP.reg ?_
    refine WL.e e_move <| WL.e e_neq <| WL.e e_move ?_
    refine WL.bool 14 rfl (fun h => ?_) (fun h => ?_)
    · skip
      refine WL.skip <| WL.skip <| WL.skip <| WL.skip <| WL.skip <| WL.e e_pick_t ?_
      refine WL.next ?_
      refine WP.cond_t rfl ?_
      refine WP.ret ?_
      refine PO.past nofun ?_
      refine PO.blockR ?_
      refine PO.round nofun ?_
      refine PO.blockR ?_
      exact PO.fin Tryz.results164 rv_nil (hK.1 pre (by rw [← he, recs_none hg]; simp) hh)
    · simp at h -- end
  · have hm := getF_some hg
    have hpf : (pre ++ [((⟨a2, n2, c2⟩, r, m) : RecV)]).map (·.2) <+: recs b := by rw [← he, recs_some hg]; simp
    refine WL.e e_move <| WL.e e_extract <| WL.e e_extract <| WL.e e_extract <| WL.e e_assign <| WL.e e_assign <| WL.e e_assign ?_
    refine WL.next ?_
    refine WP.seq ?_
    refine WP.seq ?_
    refine WP.reg ?_
    refine WL.e e_move <| WL.e e_neq <| WL.e e_move ?_
    refine WL.bool 14 rfl (fun h => ?_) (fun h => ?_)
    · simp at h -- end
    · skip
      refine WL.e e_move <| WL.e e_move <| WL.e e_move ?_
      refine WL.h (h_cally (hy pre (⟨a2, n2, c2⟩, r, m) hpf hh) ?_)
      refine ⟨fun hc => ?_, fun hc => ?_⟩
      · skip
        refine WL.e e_not <| WL.e e_pick_f ?_
        refine WL.next ?_
        refine WP.cond_f rfl ?_
        refine WP.skip ?_
        refine PO.next ?_
        refine WP.reg ?_
        refine WL.e (e_load a114) <| WL.e e_move <| WL.e (e_mul (c := ((m * 64 : Nat) : Int)) rfl rfl (by rw [w_i64 (by omega) (by omega)]; omega)) ?_
        refine WL.e (el_from (lo := m * 64) sl114 hr hm.2.1) ?_
        refine WL.h' (h_store s114 ?_)
        refine WL.nil ?_
        refine PO.blockN ?_
        exact PO.againK (subS w1 (m * 64) b1.length 1, b1.drop (m * 64), pre ++ [(⟨a2, n2, c2⟩, r, m)]) ⟨by rw [subS_eq]; exact RL.from_ eB_ok hr hm.2.1, by simp; omega, by rw [← he, recs_some hg]; simp, hh.snoc hc⟩ (by simp; omega)
      · skip
        refine WL.e e_not <| WL.e e_pick_f ?_
        refine WL.next ?_
        refine WP.cond_t rfl ?_
        refine WP.ret ?_
        refine PO.past nofun ?_
        refine PO.blockR ?_
        refine PO.round nofun ?_
        refine PO.blockR ?_
        exact PO.fin Tryz.results164 rv_nil (hK.2 pre (⟨a2, n2, c2⟩, r, m) hpf hh hc)
theorem found_spec {g : World} {w : SV} : Spec Tryz.prog g 132 [w.v] [] fun K R => ∀ c1, K (.func (.func 164) #[] #[.pointer (some ⟨c1, 0, none⟩)]) (cl c1 114 [w.v] :: R) := by
  refine Spec.intro Tryz.func132 rfl Tryz.ntmps132 rfl fun R K hK => ?_
  refine WP.seq ?_
  refine WP.reg ?_
  refine WL.h (h_box fun b1 => ?_)
  refine WL.e e_assign ?_
  refine WL.next ?_
  refine WP.seq ?_
  refine WP.reg ?_
  refine WL.e e_makeFunc <| WL.e e_assign ?_
  refine WL.next ?_
  refine WP.ret ?_
  exact PO.fin Tryz.results132 (rv_tmp rv_nil) (hK b1)
def recC (x : RecV) : List Value := [x.1.v]
theorem recCE : EncOk 1 recC := ⟨fun _ => rfl, fun _ => rfl⟩
def RecsR (l : List RecV) : HP := bun (l.map recR)
theorem RecsR_snoc {l : List RecV} {x : RecV} : ∀ S, stars [RecsR l, recR x] S → RecsR (l ++ [x]) S := fun S h => by
  have := stars_bun h
  unfold RecsR bun
  rwa [List.map_append]
theorem RecsR_nil {L : List HP} {S : Piece} (h : stars L S) : stars (RecsR [] :: L) S := bun_stars (L := []) h
def tot (l : List RecV) : Nat := (l.map (·.2.2)).sum
def OpJ (b2 bl b3 p : Nat) (pre : List RecV) : HP := fun S => ∃ sv : SV, stars [cl b2 96 [.pointer (some ⟨bl, 0, none⟩)], cl bl 193 [.pointer (some ⟨p, 0, none⟩), .int .i64 (tot pre)], cl b3 155 [sv.v], Sl 114 1 recC sv.v pre, RecsR pre] S
theorem tot_le {all : List UInt8} {pre : List RecV} (h : pre.map (·.2) <+: recs all) : tot pre * 64 ≤ all.length ∧ pre.length * 64 ≤ all.length := by
  obtain ⟨t, ht⟩ := h
  have h1 := recs_le _ all (Nat.le_refl _)
  rw [← ht] at h1
  simp only [List.map_append, List.sum_append, List.length_append, List.length_map, List.map_map] at h1
  have e : (pre.map ((fun x => x.2) ∘ fun x => x.2)).sum = tot pre := rfl
  rw [e] at h1
  omega
theorem tot_snoc (pre : List RecV) (x : RecV) : tot (pre ++ [x]) = tot pre + x.2.2 := by simp [tot]
theorem Open_spec {g : World} {p : Nat} {d : DiskM} (hd : d.ok) (hw : d.waits.length < 4000000000) : Spec Tryz.prog g 80 [.pointer (some ⟨p, 0, none⟩)] [Dk p d] fun K R => ∀ (l : Nat) (sv : SV) (xs : List RecV), xs.map (·.2) = recs d.seen.flatten → K (.tuple #[.pointer (some ⟨l, 0, none⟩), sv.v, .int .i64 0]) (cl l 193 [.pointer (some ⟨p, 0, none⟩), .int .i64 (tot xs)] :: Sl 114 1 recC sv.v xs :: RecsR xs :: Dk p (cleanTo d.seen.flatten d (tot xs) (d.sure.length - tot xs)).sync :: R) := by
  refine Spec.intro Tryz.func80 rfl Tryz.ntmps80 rfl fun R K hK => ?_
  refine WP.seq ?_
  refine WP.reg ?_
  refine WL.h (h_alloc z96 fun b1 => ?_)
  refine WL.h (h_alloc z155 fun b2 => ?_)
  refine WL.e e_assign ?_
  refine WL.next ?_
  refine WP.seq ?_
  refine WP.seq ?_
  refine WP.reg ?_
  refine WL.e e_move ?_
  refine WL.h (h_call (Size_spec) k78 ?_)
  refine WL.e e_eql ?_
  refine WL.next ?_
  refine WP.cond rfl (fun h => ?_) (fun h => ?_)
  · rw [beq_iff_eq] at h; have := hd.pos; omega
  · have hle := hd.le
    have hlen := hd.len
    refine WP.skip ?_
    refine PO.next ?_
    refine WP.seq ?_
    refine WP.reg ?_
    refine WL.e e_assign ?_
    refine WL.next ?_
    refine WP.seq ?_
    refine WP.seq ?_
    refine WP.reg ?_
    refine WL.e e_move ?_
    refine WL.h (h_call (Size_spec) k78 ?_)
    refine WL.e e_move ?_
    refine WL.next ?_
    refine WP.block ?_
    refine WP.nils 5 1 eB none ?_
    refine WP.loopK (fun (x : Nat × Value) => [(18, .int .i64 x.1), (5, x.2)]) (fun (x : Nat × Value) => Sl 5 1 eB x.2 (d.seen.take x.1).flatten :: cl b1 96 [.pointer none] :: cl b2 155 [.slice none 0 0] :: Dk p d :: R) [(0, _), (2, _), (3, _), (4, _), (17, _)] (fun (x : Nat × Value) => x.1 ≤ d.sure.length) (fun (x : Nat × Value) => d.sure.length - x.1) (0, .slice none 0 0) (Nat.zero_le _) ?_
    rintro ⟨i, u5⟩ hx1
    simp only at hx1
    dsimp only
    refine WP.seq ?_
    refine WP.reg ?_
    refine WL.e e_lss ?_
    refine WL.next ?_
    refine WP.seq ?_
    refine WP.cond rfl (fun h2 => ?_) (fun h2 => ?_)
    · have hlt : i < d.sure.length := by rw [decide_eq_true_eq] at h2; omega
      obtain ⟨q, hq⟩ : ∃ q, d.seen[i]? = some q := ⟨_, List.getElem?_eq_getElem (by omega)⟩
      have hq64 := hd.l2 q (List.mem_of_getElem? hq)
      have hfl : (d.seen.take i).flatten.length = i * 64 := by rw [flat_seen (fun p hp => hd.l2 p (List.mem_of_mem_take hp))]; simp; omega
      refine WP.skip ?_
      refine PO.next ?_
      refine WP.seq ?_
      refine WP.block ?_
      refine WP.seq ?_
      refine WP.reg ?_
      refine WL.e e_move <| WL.e e_assign ?_
      refine WL.next ?_
      refine WP.seq ?_
      refine WP.reg ?_
      refine WL.e e_move <| WL.e e_move ?_
      refine WL.h (h_call (Read_spec i q hlt hq hq64) k131 ?_)
      intro a4 n4 c4
      refine WL.e e_move <| WL.e e_extract <| WL.e e_extract <| WL.e e_assign <| WL.e e_assign ?_
      refine WL.next ?_
      refine WP.reg ?_
      refine WL.e e_move <| WL.e e_move ?_
      refine WL.h (hl_append (xs := (d.seen.take i).flatten) (ys := q) sl114 eB_ok z5 sl_rl (by omega) (fun a6 n6 c6 => ?_))
      rw [show (d.seen.take i).flatten ++ q = (d.seen.take (i + 1)).flatten by rw [take_snoc hq]; simp]
      refine WL.e e_assign ?_
      refine WL.nil ?_
      refine PO.blockN ?_
      refine PO.next ?_
      refine WP.reg ?_
      refine WL.e (e_add rfl rfl (w_i64 (by omega) (by omega))) <| WL.e e_move ?_
      refine WL.nil ?_
      exact PO.againK (i + 1, .slice a6 n6 c6) (by simp only; omega) (by simp only; omega)
    · rw [List.take_of_length_le (show d.seen.length ≤ i by rw [decide_eq_false_iff_not] at h2; omega)]
      have hall : d.seen.flatten.length = d.sure.length * 64 := by rw [flat_seen hd.l2, hlen]
      refine WP.sh (u := u5) ?_
      rintro a5 n5 c5 rfl
      refine WP.exit ?_
      refine PO.past nofun ?_
      refine PO.round nofun ?_
      refine PO.blockX ?_
      refine PO.next ?_
      refine WP.seq ?_
      refine WP.reg ?_
      refine WL.e e_move <| WL.e (e_build z191 p191 (.o (.tmp 31) rfl <| .z (.int .i64 0) <| .n)) <| WL.e (e_build z193 p193 (.a2 (.tmp 32) rfl <| .n)) ?_
      refine WL.h (h_box fun b3 => ?_)
      refine WL.h' (h_store s96 ?_)
      refine WL.next ?_
      refine WP.seq ?_
      refine WP.seq ?_
      refine WP.reg ?_
      refine WL.e e_move ?_
      refine WL.h (h_call (found_spec (w := ⟨a5, n5, c5⟩)) k132 ?_)
      intro c1
      refine WL.next ?_
      refine WP.block ?_
      refine WP.nils 114 1 recC none ?_
      refine WP.conv (fun S h => RecsR_nil h) ?_
      refine WP.cls (A := OpJ b1 b3 b2 p []) (B := [cl b1 96 [.pointer (some ⟨b3, 0, none⟩)], cl b3 193 [.pointer (some ⟨p, 0, none⟩), .int .i64 (tot ([]))], cl b2 155 [.slice none 0 0], Sl 114 1 recC (.slice none 0 0) ([]), RecsR ([])]) (fun S h => ⟨⟨none, 0, 0⟩, h⟩) ?_
      refine WP.range (R := ?RR) (f := 164) (fs := []) (cs := [.pointer (some ⟨c1, 0, none⟩)]) (OpJ b1 b3 b2 p) (fun _ _ _ => pu True) (fun _ _ => True) (found_iter (A := Sl 5 1 eB (.slice a5 n5 c5) d.seen.flatten) (w := ⟨a5, n5, c5⟩) (b := d.seen.flatten) sl_rl (by omega)) k164 ?hLL ?_ ?_ ?_ (fun _ => rfl)
      case hLL => repeat first | exact .nil | exact Pick.z | apply Pick.s | apply Split.cons
      · rintro lb db fn tmps pre ⟨⟨a7, n7, c7⟩, r, m⟩ R2 hp hh
        have htl := tot_le hp
        rw [tot_snoc, List.length_append] at htl
        simp only [List.length_cons, List.length_nil] at htl
        refine WP.opn (B := fun sv : SV => [cl b1 96 [.pointer (some ⟨b3, 0, none⟩)], cl b3 193 [.pointer (some ⟨p, 0, none⟩), .int .i64 (tot (pre))], cl b2 155 [sv.v], Sl 114 1 recC (sv.v) (pre), RecsR (pre)]) (fun _ h => h) fun sv => ?_
        refine WP.seq ?_
        refine WP.reg ?_
        refine WL.e e_assign ?_
        refine WL.next ?_
        refine WP.reg ?_
        refine WL.e e_assign ?_
        refine WL.nil ?_
        refine PO.asg rfl (by repeat first | exact .z | apply Put.s) ?_
        refine WP.block ?_
        refine WP.seq ?_
        refine WP.reg ?_
        refine WL.e (e_load a155) <| WL.e e_move ?_
        refine WL.h (h_bs sl155 z114 (.o (.tmp 40) rfl <| .n) fun b4 => ?_)
        refine WL.h (hl_append (xs := pre) (ys := [((⟨a7, n7, c7⟩, r, m) : RecV)]) sl155 recCE z114 (lit_rl recCE [((⟨a7, n7, c7⟩, r, m) : RecV)] rfl) (by simp; omega) (fun a8 n8 c8 => ?_))
        refine WL.h' (h_store s155 ?_)
        refine WL.next ?_
        refine WP.reg ?_
        refine WL.e (e_load a96) <| WL.e e_nil <| WL.e (e_fa f193_0) <| WL.e (e_fa f191_1) <| WL.e (e_load a3) <| WL.e e_move <| WL.e (e_add (c := ((tot (pre ++ [((⟨a7, n7, c7⟩, r, m) : RecV)]) : Nat) : Int)) rfl rfl (by rw [tot_snoc]; simp only; rw [w_i64 (by omega) (by omega)]; omega)) <| WL.e e_nil <| WL.e (e_fa f193_0) <| WL.e (e_fa f191_1) ?_
        refine WL.h' (h_store s3 ?_)
        refine WL.nil ?_
        refine PO.blockN ?_
        refine PO.cls (B := [RecsR pre, recR (⟨a7, n7, c7⟩, r, m)]) RecsR_snoc ?_
        refine PO.cls (A := OpJ b1 b3 b2 p (pre ++ [((⟨a7, n7, c7⟩, r, m) : RecV)])) (B := [cl b1 96 [.pointer (some ⟨b3, 0, none⟩)], cl b3 193 [.pointer (some ⟨p, 0, none⟩), .int .i64 (tot (pre ++ [((⟨a7, n7, c7⟩, r, m) : RecV)]))], cl b2 155 [.slice a8 n8 c8], Sl 114 1 recC (.slice a8 n8 c8) (pre ++ [((⟨a7, n7, c7⟩, r, m) : RecV)]), RecsR (pre ++ [((⟨a7, n7, c7⟩, r, m) : RecV)])]) (fun S h => ⟨⟨a8, n8, c8⟩, h⟩) ?_
        exact PO.rnd trivial (by repeat first | exact .refl | exact Pick.z | apply Pick.s | apply Sub.cons | apply Sub.drop)
      · intro db xs hx hh
        have htl := tot_le (hx ▸ List.prefix_refl _ : xs.map (·.2) <+: recs d.seen.flatten)
        refine PO.opn (B := fun sv : SV => [cl b1 96 [.pointer (some ⟨b3, 0, none⟩)], cl b3 193 [.pointer (some ⟨p, 0, none⟩), .int .i64 (tot (xs))], cl b2 155 [sv.v], Sl 114 1 recC (sv.v) (xs), RecsR (xs)]) (fun _ h => h) fun sv => ?_
        refine PO.blockN ?_
        refine PO.next ?_
        refine WP.seq ?_
        refine WP.reg ?_
        refine WL.h (hl_make (enc := eB) (n := 64) (0 : UInt8) sl114 z5 (by omega) (fun a9 n9 c9 => ?_))
        refine WL.e e_assign ?_
        refine WL.next ?_
        refine WP.seq ?_
        refine WP.seq ?_
        refine WP.reg ?_
        refine WL.e (e_load a96) <| WL.e e_nil <| WL.e (e_fa f193_0) <| WL.e (e_fa f191_1) <| WL.e (e_load a3) <| WL.e e_assign ?_
        refine WL.next ?_
        refine WP.block ?_
        refine WP.loopK (fun (k : Nat) => [(12, .int .i64 (tot xs + k : Nat))]) (fun (k : Nat) => [cl b1 96 [.pointer (some ⟨b3, 0, none⟩)], cl b3 193 [.pointer (some ⟨p, 0, none⟩), .int .i64 (tot (xs))], cl b2 155 [sv.v], Sl 114 1 recC (sv.v) (xs), RecsR (xs)] ++ (Sl 5 1 eB (.slice a5 n5 c5) d.seen.flatten :: Sl 5 1 eB (.slice a9 n9 c9) (List.replicate 64 0) :: Dk p (cleanTo d.seen.flatten d (tot xs) k) :: pt db (.deferred (some [])) :: R)) [(0, _), (2, _), (3, _), (4, _), (5, _), (11, _)] (fun (k : Nat) => tot xs + k ≤ d.sure.length) (fun (k : Nat) => d.sure.length - k) 0 (by omega) ?_
        intro k hk
        obtain ⟨hok, hsu, hwt⟩ := cleanTo_ok d.seen.flatten d (tot xs) k hd
        refine WP.seq ?_
        refine WP.seq ?_
        refine WP.reg ?_
        refine WL.e e_move <| WL.e e_move ?_
        refine WL.h (h_call (Size_spec) k78 ?_)
        refine WL.e e_lss ?_
        refine WL.next ?_
        refine WP.cond rfl (fun h4 => ?_) (fun h4 => ?_)
        · have hlt : tot xs + k < d.sure.length := by rw [decide_eq_true_eq, hsu] at h4; omega
          refine WP.skip ?_
          refine PO.next ?_
          refine WP.seq ?_
          refine WP.block ?_
          refine WP.seq ?_
          refine WP.reg ?_
          refine WL.e e_move <| WL.e e_move <| WL.e (e_mul (c := (((tot xs + k) * 64 : Nat) : Int)) rfl rfl (by rw [w_i64 (by omega) (by omega)]; omega)) <| WL.e e_move <| WL.e (e_add (c := ((tot xs + k + 1 : Nat) : Int)) rfl rfl (by rw [w_i64 (by omega) (by omega)]; omega)) <| WL.e (e_mul (c := (((tot xs + k + 1) * 64 : Nat) : Int)) rfl rfl (by rw [w_i64 (by omega) (by omega)]; omega)) ?_
          refine WL.e (el_fromto (lo := (tot xs + k) * 64) (hi := (tot xs + k + 1) * 64) (xs := d.seen.flatten) sl114 sl_rl (by omega) (by omega)) <| WL.e e_move ?_
          refine WL.h (h_call (BEqual_spec (xs := (d.seen.flatten.drop ((tot xs + k) * 64)).take 64) (ys := List.replicate 64 0) (by have := RL.sub (lo := (tot xs + k) * 64) (hi := (tot xs + k + 1) * 64) (mx := none) eB_ok (sl_rl (E := 5) (z := 1) (enc := eB) (u := .slice a5 n5 c5) (xs := d.seen.flatten)) (by omega) (by omega) (by simp); rwa [show (tot xs + k + 1) * 64 - (tot xs + k) * 64 = 64 by omega] at this) sl_rl) k133 ?_)
          refine WL.e e_not ?_
          refine WL.next ?_
          refine WP.cond rfl (fun h5 => ?_) (fun h5 => ?_)
          · replace h5 : ¬ (d.seen.flatten.drop ((tot xs + k) * 64)).take 64 = List.replicate 64 0 := by simpa using h5
            refine WP.reg ?_
            refine WL.e e_move <| WL.e e_move <| WL.e e_move ?_
            refine WL.h (h_call (Write_spec (d := (cleanTo d.seen.flatten d (tot xs) k)) (b := List.replicate 64 0) (tot xs + k) sl_rl (by rw [hsu]; exact hlt) hok.len hok.le (by simp) (by omega)) k106 ?_)
            refine WL.nil ?_
            refine PO.blockN ?_
            refine PO.next ?_
            refine WP.reg ?_
            refine WL.e e_move <| WL.e (e_add (c := ((tot xs + (k + 1) : Nat) : Int)) rfl rfl (by rw [w_i64 (by omega) (by omega)]; omega)) <| WL.e e_assign ?_
            refine WL.nil ?_
            rw [show (cleanTo d.seen.flatten d (tot xs) k).write (tot xs + k) (List.replicate 64 0) = cleanTo d.seen.flatten d (tot xs) (k + 1) by rw [cleanTo, if_neg h5]]
            exact PO.againK (k + 1) (by omega) (by omega)
          · replace h5 : (d.seen.flatten.drop ((tot xs + k) * 64)).take 64 = List.replicate 64 0 := by simpa using h5
            refine WP.skip ?_
            refine PO.blockN ?_
            refine PO.next ?_
            refine WP.reg ?_
            refine WL.e e_move <| WL.e (e_add (c := ((tot xs + (k + 1) : Nat) : Int)) rfl rfl (by rw [w_i64 (by omega) (by omega)]; omega)) <| WL.e e_assign ?_
            refine WL.nil ?_
            rw [show (cleanTo d.seen.flatten d (tot xs) k) = cleanTo d.seen.flatten d (tot xs) (k + 1) by rw [cleanTo, if_pos h5]]
            exact PO.againK (k + 1) (by omega) (by omega)
        · obtain rfl : k = d.sure.length - tot xs := by rw [decide_eq_false_iff_not, hsu] at h4; omega
          refine WP.exit ?_
          refine PO.past nofun ?_
          refine PO.round nofun ?_
          refine PO.blockX ?_
          refine PO.next ?_
          refine WP.seq ?_
          refine WP.draws mixedOk 7 ?_
          refine RW.e 0 rfl (e_load a96) <| RW.e 1 rfl (e_load a155) <| RW.e 2 rfl e_move ?_
          refine RW.any (is := [3]) rfl ⟨?_, trivial⟩
          refine RWat.h rfl rfl rfl ?_
          refine (h_call (Sync_spec hok.pos hok.len) k107 ?_)
          refine ⟨⟨⟨_, rfl, .inl ⟨rfl, (e_load a155)⟩⟩, ⟨_, rfl, .inl ⟨rfl, (e_load a96)⟩⟩, trivial⟩, ?_⟩
          refine RW.any (is := [4]) rfl ⟨?_, trivial⟩
          refine RWat.h' rfl rfl rfl ?_
          refine (h_store s96 ?_)
          refine ⟨⟨⟨_, rfl, .inl ⟨rfl, (e_load a155)⟩⟩, trivial⟩, ?_⟩
          refine RW.any (is := [5]) rfl ⟨?_, trivial⟩
          refine RWat.h' rfl rfl rfl ?_
          refine (h_store s155 ?_)
          refine ⟨trivial, ?_⟩
          refine RW.e 6 rfl e_assign ?_
          refine RW.done ?_
          refine PO.next ?_
          refine WP.ret ?_
          exact PO.finM (by repeat first | exact .z | apply Put.s) Tryz.results80 (rv_cell a96 (rv_cell a155 (rv_tmp rv_nil))) (hK b3 sv xs hx)
      · exact fun _ _ _ _ _ _ hc => absurd trivial hc
end Go.SL
/- What the functions compute, in plain Lean: rows in order. -/
set_option linter.unusedSimpArgs false
set_option linter.unusedVariables false
set_option linter.unusedSectionVars false
namespace Go.SL
open Go
def cmpS (a b : ByteArray) : Int := if sLt a b then -1 else if sLt b a || sEq a b then (if sEq a b then 0 else 1) else 1
/-! the order of texts -/
theorem sEq_iff {a b : ByteArray} : sEq a b = true ↔ a = b := by
  simp only [sEq, beq_iff_eq]
  constructor
  · intro h
    rw [ByteArray.ext_iff]
    apply Array.ext'
    simpa [ByteArray.toList_eq] using h
  · rintro rfl; rfl
theorem bl_irrefl : ∀ l : List UInt8, Op.bytesLess l l = false
  | [] => rfl
  | a :: l => by simp [Op.bytesLess, bl_irrefl l]
theorem bl_trans : ∀ {a b c : List UInt8}, Op.bytesLess a b = true → Op.bytesLess b c = true → Op.bytesLess a c = true
  | [], [], _, h, _ => by simp [Op.bytesLess] at h
  | [], _ :: _, [], _, h => by simp [Op.bytesLess] at h
  | [], _ :: _, _ :: _, _, _ => by simp [Op.bytesLess]
  | _ :: _, [], _, h, _ => by simp [Op.bytesLess] at h
  | _ :: _, _ :: _, [], _, h => by simp [Op.bytesLess] at h
  | x :: a, y :: b, z :: c, h, h' => by
    simp only [Op.bytesLess, Bool.or_eq_true, Bool.and_eq_true, decide_eq_true_eq, beq_iff_eq] at h h' ⊢
    rcases h with h | ⟨rfl, h⟩ <;> rcases h' with h' | ⟨rfl, h'⟩
    · left; exact UInt8.lt_trans h h'
    · exact .inl h
    · exact .inl h'
    · exact .inr ⟨rfl, bl_trans h h'⟩
theorem bl_tri : ∀ (a b : List UInt8), Op.bytesLess a b = true ∨ a = b ∨ Op.bytesLess b a = true
  | [], [] => .inr (.inl rfl)
  | [], _ :: _ => .inl (by simp [Op.bytesLess])
  | _ :: _, [] => .inr (.inr (by simp [Op.bytesLess]))
  | x :: a, y :: b => by
    simp only [Op.bytesLess, Bool.or_eq_true, Bool.and_eq_true, decide_eq_true_eq, beq_iff_eq, List.cons.injEq]
    rcases UInt8.lt_or_lt_of_ne_or_eq x y with h | h | h
    · exact .inl (.inl h)
    · exact .inr (.inr (.inl h))
    · subst h
      rcases bl_tri a b with h | h | h
      · exact .inl (.inr ⟨rfl, h⟩)
      · exact .inr (.inl ⟨rfl, h⟩)
      · exact .inr (.inr (.inr ⟨rfl, h⟩))
where
  UInt8.lt_or_lt_of_ne_or_eq (x y : UInt8) : x < y ∨ y < x ∨ x = y := by
    rcases Nat.lt_trichotomy x.toNat y.toNat with h | h | h
    · exact .inl (UInt8.lt_iff_toNat_lt.2 h)
    · exact .inr (.inr (UInt8.toNat_inj.1 h))
    · exact .inr (.inl (UInt8.lt_iff_toNat_lt.2 h))
theorem sLt_irrefl (a : ByteArray) : sLt a a = false := bl_irrefl _
theorem sLt_trans {a b c : ByteArray} (h : sLt a b = true) (h' : sLt b c = true) : sLt a c = true := bl_trans h h'
theorem sLt_tri (a b : ByteArray) : sLt a b = true ∨ a = b ∨ sLt b a = true := by
  rcases bl_tri a.toList b.toList with h | h | h
  · exact .inl h
  · refine .inr (.inl (sEq_iff.1 ?_)); simp [sEq, h]
  · exact .inr (.inr h)
theorem sLt_asymm {a b : ByteArray} (h : sLt a b = true) : sLt b a = false := by
  cases e : sLt b a with
  | false => rfl
  | true => have := sLt_trans h e; rw [sLt_irrefl] at this; cases this
/-- Rising. -/
def Rising (l : List RowM) : Prop := l.Pairwise fun a b => sLt a.key b.key = true
def lowI (l : List RowM) (k : ByteArray) : Nat := (l.takeWhile fun r => sLt r.key k).length
def hasI (l : List RowM) (k : ByteArray) : Bool := match l[lowI l k]? with
  | some r => sEq r.key k
  | none => false
theorem lowI_le (l : List RowM) (k : ByteArray) : lowI l k ≤ l.length := (List.takeWhile_sublist _).length_le
theorem low_le {l : List RowM} {k : ByteArray} {h : Nat} {x : RowM} (hx : l[h]? = some x) (hp : sLt x.key k = false) : lowI l k ≤ h := by
  induction l generalizing h with
  | nil => simp at hx
  | cons a l ih =>
    unfold lowI at *
    rw [List.takeWhile_cons]
    cases h with
    | zero => simp at hx; subst hx; simp [hp]
    | succ h =>
      simp at hx
      split
      · simp; exact ih hx
      · simp
theorem low_gt {l : List RowM} {k : ByteArray} (hl : Rising l) {h : Nat} {x : RowM} (hx : l[h]? = some x) (hp : sLt x.key k = true) : h < lowI l k := by
  induction l generalizing h with
  | nil => simp at hx
  | cons a l ih =>
    have hr := List.pairwise_cons.1 hl
    unfold lowI at *
    rw [List.takeWhile_cons]
    cases h with
    | zero => simp at hx; subst hx; simp [hp]
    | succ h =>
      simp at hx
      have ha : sLt a.key k = true := sLt_trans (hr.1 x (List.mem_of_getElem? hx)) hp
      simp [ha]; exact ih hr.2 hx
theorem cmpS_lt (a b : ByteArray) : decide (cmpS a b < 0) = sLt a b := by
  unfold cmpS
  cases sLt a b <;> simp
  split <;> (try split) <;> simp
theorem cmpS_eq {a b : ByteArray} : (cmpS a b == 0) = sEq a b := by
  unfold cmpS
  by_cases h : sEq a b = true
  · have := sEq_iff.1 h; subst this; simp [sLt_irrefl, h]
  · simp only [Bool.not_eq_true] at h
    rw [h]; split <;> (try split) <;> simp_all
end Go.SL
set_option linter.unusedSimpArgs false
set_option linter.unusedVariables false
namespace Go.SL.W6
open Go Go.Proofs Go.SL
theorem a29 : aggOf Tryz.prog 29 = some none := by kernel_rfl
theorem a291 : aggOf Tryz.prog 291 = some none := by kernel_rfl
theorem a4 : aggOf Tryz.prog 4 = some none := by kernel_rfl
theorem a40 : aggOf Tryz.prog 40 = some (some 2) := by kernel_rfl
theorem a9 : aggOf Tryz.prog 9 = some none := by kernel_rfl
theorem f223_0 : fldOf Tryz.prog 223 0 = some 0 := by kernel_rfl
theorem f223_1 : fldOf Tryz.prog 223 1 = some 1 := by kernel_rfl
theorem f40_0 : fldOf Tryz.prog 40 0 = some 0 := by kernel_rfl
theorem k122 : callable Tryz.prog 122 = true := by kernel_rfl
theorem k185 : callable Tryz.prog 185 = true := by kernel_rfl
theorem k186 : callable Tryz.prog 186 = true := by kernel_rfl
theorem k212 : callable Tryz.prog 212 = true := by kernel_rfl
theorem k213 : callable Tryz.prog 213 = true := by kernel_rfl
theorem k214 : callable Tryz.prog 214 = true := by kernel_rfl
theorem k224 : callable Tryz.prog 224 = true := by kernel_rfl
theorem k74 : callable Tryz.prog 74 = true := by kernel_rfl
theorem k90 : callable Tryz.prog 90 = true := by kernel_rfl
theorem p223 : placesOf Tryz.prog 223 = some [(0, 1), (1, 1)] := by kernel_rfl
theorem pt123 : isPtr Tryz.prog 123 = true := by kernel_rfl
theorem sl29 : slOf Tryz.prog 29 = some (40, 2, 24) := by kernel_rfl
theorem z223 : zeroOf Tryz.prog 223 = some [.slice none 0 0, .bool false] := by kernel_rfl
theorem z40 : zeroOf Tryz.prog 40 = some [.string .empty, .int .u32 0] := by kernel_rfl
end Go.SL.W6
namespace Go.SL
open Go Go.Proofs W6
theorem isNaN_spec {g : World} (a : ByteArray) : Spec Tryz.prog g 224 [.string a] [] fun K R => K (.bool false) R := by
  refine Spec.intro Tryz.func224 rfl Tryz.ntmps224 rfl fun R K hK => ?_
  refine WP.seq ?_
  refine WP.reg ?_
  refine WL.e e_assign ?_
  refine WL.next ?_
  refine WP.seq ?_
  refine WP.reg ?_
  refine WL.e e_move <| WL.e e_move <| WL.e e_sne <| WL.e e_assign ?_
  refine WL.next ?_
  refine WP.ret ?_
  exact PO.finE Tryz.results224 (rv_tmp rv_nil) (by simp [sEq]) hK
theorem cmp_spec {g : World} (a b : ByteArray) : Spec Tryz.prog g 214 [.string a, .string b] [] fun K R => K (.int .i64 (cmpS a b)) R := by
  refine Spec.intro Tryz.func214 rfl Tryz.ntmps214 rfl fun R K hK => ?_
  refine WP.seq ?_
  refine WP.reg ?_
  refine WL.e e_assign ?_
  refine WL.next ?_
  refine WP.seq ?_
  refine WP.reg ?_
  refine WL.e e_move ?_
  refine WL.h (h_call (isNaN_spec _) k224 ?_)
  refine WL.e e_assign ?_
  refine WL.next ?_
  refine WP.seq ?_
  refine WP.reg ?_
  refine WL.e e_move ?_
  refine WL.h (h_call (isNaN_spec _) k224 ?_)
  refine WL.e e_assign ?_
  refine WL.next ?_
  refine WP.seq ?_
  refine WP.seq ?_
  refine WP.reg ?_
  refine WL.e e_move ?_
  refine WL.next ?_
  refine WP.cond_f rfl ?_
  refine WP.skip ?_
  refine PO.next ?_
  refine WP.seq ?_
  refine WP.seq ?_
  refine WP.reg ?_
  refine WL.e e_move ?_
  refine WL.next ?_
  refine WP.cond_f rfl ?_
  refine WP.skip ?_
  refine PO.next ?_
  refine WP.seq ?_
  refine WP.seq ?_
  refine WP.reg ?_
  refine WL.e e_move <| WL.e e_move <| WL.e e_slt ?_
  refine WL.next ?_
  refine WP.cond rfl (fun h1 => ?_) (fun h1 => ?_)
  · skip
    refine WP.seq ?_
    refine WP.reg ?_
    refine WL.e e_assign ?_
    refine WL.next ?_
    refine WP.ret ?_
    refine PO.past nofun ?_
    exact PO.finE Tryz.results214 (rv_tmp rv_nil) (by simp_all [cmpS]) hK
  · skip
    refine WP.skip ?_
    refine PO.next ?_
    refine WP.seq ?_
    refine WP.seq ?_
    refine WP.reg ?_
    refine WL.e e_move <| WL.e e_move <| WL.e e_sgt ?_
    refine WL.next ?_
    refine WP.cond rfl (fun h2 => ?_) (fun h2 => ?_)
    · skip
      refine WP.seq ?_
      refine WP.reg ?_
      refine WL.e e_assign ?_
      refine WL.next ?_
      refine WP.ret ?_
      refine PO.past nofun ?_
      exact PO.finE Tryz.results214 (rv_tmp rv_nil) (by simp_all [cmpS]) hK
    · skip
      refine WP.skip ?_
      refine PO.next ?_
      refine WP.seq ?_
      refine WP.reg ?_
      refine WL.e e_assign ?_
      refine WL.next ?_
      refine WP.ret ?_
      exact PO.finE Tryz.results214 (rv_tmp rv_nil) (by simp_all [cmpS]) hK
theorem rowKey_spec {g : World} (x : RowM) : Spec Tryz.prog g 186 [x.v] [] fun K R => K (.string x.key) R := by
  refine Spec.intro Tryz.func186 rfl Tryz.ntmps186 rfl fun R K hK => ?_
  refine WP.seq ?_
  refine WP.reg ?_
  refine WL.h (h_box fun b1 => ?_)
  refine WL.e e_assign ?_
  refine WL.next ?_
  refine WP.seq ?_
  refine WP.reg ?_
  refine WL.e (e_fa f40_0) <| WL.e (e_load a9) <| WL.e e_assign ?_
  refine WL.next ?_
  refine WP.ret ?_
  exact PO.fin Tryz.results186 (rv_tmp rv_nil) hK
theorem cmpRow_spec {g : World} (x : RowM) (k : ByteArray) (cb : Nat) : Spec Tryz.prog g 213 [x.v, .string k, .pointer (some ⟨cb, 0, none⟩)] [cl cb 291 [.func (.func 186) #[] #[]]] fun K R => K (.int .i64 (cmpS x.key k)) (cl cb 291 [.func (.func 186) #[] #[]] :: R) := by
  refine Spec.intro Tryz.func213 rfl Tryz.ntmps213 rfl fun R K hK => ?_
  refine WP.seq ?_
  refine WP.reg ?_
  refine WL.h (h_box fun b1 => ?_)
  refine WL.e e_assign ?_
  refine WL.next ?_
  refine WP.seq ?_
  refine WP.reg ?_
  refine WL.e (e_load a291) <| WL.e (e_loadN a40) ?_
  refine WL.h (h_callv (fs := []) (cs := []) (args := [x.v]) (rowKey_spec x) k186 ?_)
  refine WL.e e_move ?_
  refine WL.h (h_call (cmp_spec _ _) k214 ?_)
  refine WL.e e_assign ?_
  refine WL.next ?_
  refine WP.ret ?_
  exact PO.fin Tryz.results213 (rv_tmp rv_nil) hK
theorem BSF_spec {g : World} {A : HP} {u y : Value} {l : List RowM} {k : ByteArray} {B : HP} (hA : RL A 2 RowM.c u l) (hl : Rising l) (hn : l.length ≤ 68719476736) (hy : ∀ x : RowM, CallV Tryz.prog g y [x.v, .string k] [B] fun K R => K (.int .i64 (cmpS x.key k)) (B :: R)) :
    Spec Tryz.prog g 212 [u, .string k, y] [A, B] fun K R => K (.tuple #[.int .i64 (lowI l k), .bool (hasI l k)]) (A :: B :: R) := by
  refine Spec.intro Tryz.func212 rfl Tryz.ntmps212 rfl fun R K hK => ?_
  refine WP.seq ?_
  refine WP.reg ?_
  refine WL.e e_assign <| WL.e e_assign ?_
  refine WL.next ?_
  refine WP.seq ?_
  refine WP.reg ?_
  refine WL.e e_move ?_
  refine WL.e (el_len sl29 hA) <| WL.e e_assign ?_
  refine WL.next ?_
  refine WP.seq ?_
  refine WP.reg ?_
  refine WL.e e_move <| WL.e e_assign <| WL.e e_assign ?_
  refine WL.next ?_
  refine WP.seq ?_
  refine WP.block ?_
  refine WP.loopK (fun (x : Nat × Nat) => [(9, .int .i64 x.1), (10, .int .i64 x.2)]) (fun (x : Nat × Nat) => A :: B :: R) [(0, _), (1, _), (2, _), (6, _), (7, _), (8, _)] (fun (x : Nat × Nat) => x.1 ≤ lowI l k ∧ lowI l k ≤ x.2 ∧ x.2 ≤ l.length) (fun (x : Nat × Nat) => x.2 - x.1) (0, l.length) (⟨Nat.zero_le _, lowI_le l k, Nat.le_refl _⟩) ?_
  rintro ⟨i, j⟩ ⟨h1, h2, h3⟩
  simp only at h1 h2 h3
  dsimp only
  refine WP.seq ?_
  refine WP.seq ?_
  refine WP.reg ?_
  refine WL.e e_move <| WL.e e_move <| WL.e e_lss ?_
  refine WL.next ?_
  refine WP.cond rfl (fun h4 => ?_) (fun h4 => ?_)
  · have hij : i < j := by rw [decide_eq_true_eq] at h4; omega
    obtain ⟨r, hr⟩ : ∃ r, l[(i + j) / 2]? = some r := ⟨_, List.getElem?_eq_getElem (by omega)⟩
    refine WP.skip ?_
    refine PO.next ?_
    refine WP.block ?_
    refine WP.seq ?_
    refine WP.reg ?_
    refine WL.e e_move <| WL.e e_move <| WL.e (e_add (c := ((i + j : Nat) : Int)) rfl rfl (by rw [w_i64 (by omega) (by omega)]; omega)) <| WL.e (e_conv (c := ((i + j : Nat) : Int)) (by rw [Tryz.underlying3]; rfl) Tryz.underlying238 rfl (by simp [IntKind.wrap, IntKind.bits, IntKind.signed]; omega)) <| WL.e (e_shrN (k := .u64) (a := i + j) (m := 1) (by decide)) <| WL.e (e_conv (c := (((i + j) / 2 : Nat) : Int)) (by rw [Tryz.underlying238]; rfl) Tryz.underlying3 rfl (w_i64 (by omega) (by omega))) <| WL.e e_assign ?_
    refine WL.next ?_
    refine WP.seq ?_
    refine WP.reg ?_
    refine WL.e e_move <| WL.e e_move <| WL.e e_move ?_
    refine WL.e (el_ia (j := (i + j) / 2) sl29 hA (by omega)) ?_
    refine WL.e (el_loadN a40 rowE hA hr) <| WL.e e_move ?_
    refine WL.h (h_cally (hy r) ?_)
    refine WL.e e_lss ?_
    refine WL.next ?_
    refine WP.cond rfl (fun h5 => ?_) (fun h5 => ?_)
    · rw [cmpS_lt] at h5
      refine WP.reg ?_
      refine WL.e e_move <| WL.e (e_add (c := (((i + j) / 2 + 1 : Nat) : Int)) rfl rfl (by rw [w_i64 (by omega) (by omega)]; omega)) <| WL.e e_assign ?_
      refine WL.nil ?_
      refine PO.blockN ?_
      exact PO.againK ((i + j) / 2 + 1, j) ⟨low_gt hl hr h5, h2, h3⟩ (by simp only; omega)
    · rw [cmpS_lt] at h5
      refine WP.reg ?_
      refine WL.e e_move <| WL.e e_assign ?_
      refine WL.nil ?_
      refine PO.blockN ?_
      exact PO.againK (i, (i + j) / 2) ⟨h1, low_le hr h5, by simp only; omega⟩ (by simp only; omega)
  · obtain rfl : i = lowI l k := by rw [decide_eq_false_iff_not] at h4; omega
    refine WP.exit ?_
    refine PO.past nofun ?_
    refine PO.round nofun ?_
    refine PO.blockX ?_
    refine PO.next ?_
    refine WP.seq ?_
    refine WP.reg ?_
    refine WL.e e_move <| WL.e e_move <| WL.e e_move <| WL.e e_lss <| WL.e e_move ?_
    refine WL.bool 39 rfl (fun h6 => ?_) (fun h6 => ?_)
    · obtain ⟨r, hr⟩ : ∃ r, l[lowI l k]? = some r := ⟨_, List.getElem?_eq_getElem (by rw [decide_eq_true_eq] at h6; omega)⟩
      refine WL.e e_move <| WL.e e_move <| WL.e e_move ?_
      refine WL.e (el_ia (j := lowI l k) sl29 hA (idx_lt hr)) ?_
      refine WL.e (el_loadN a40 rowE hA hr) <| WL.e e_move ?_
      refine WL.h (h_cally (hy r) ?_)
      refine WL.e e_eql <| WL.e e_pick_t <| WL.e e_assign <| WL.e e_assign ?_
      refine WL.next ?_
      refine WP.ret ?_
      exact PO.finE Tryz.results212 (rv_tmp (rv_tmp rv_nil)) (by simp [hasI, hr, cmpS_eq]) hK
    · skip
      refine WL.skip <| WL.skip <| WL.skip <| WL.skip <| WL.skip <| WL.skip <| WL.skip <| WL.skip <| WL.e e_pick_f <| WL.e e_assign <| WL.e e_assign ?_
      refine WL.next ?_
      refine WP.ret ?_
      exact PO.finE Tryz.results212 (rv_tmp (rv_tmp rv_nil)) (by rw [decide_eq_false_iff_not] at h6; simp [hasI, List.getElem?_eq_none (show l.length ≤ lowI l k by omega)]) hK
theorem place_spec {g : World} {A : HP} {u : Value} {l : List RowM} (k : ByteArray) (hA : RL A 2 RowM.c u l) (hl : Rising l) (hn : l.length ≤ 68719476736) :
    Spec Tryz.prog g 185 [u, .string k, .func (.func 186) #[] #[]] [A] fun K R => K (.tuple #[.int .i64 (lowI l k), .bool (hasI l k)]) (A :: R) := by
  refine Spec.intro Tryz.func185 rfl Tryz.ntmps185 rfl fun R K hK => ?_
  refine WP.seq ?_
  refine WP.reg ?_
  refine WL.h (h_box fun b1 => ?_)
  refine WL.e e_assign <| WL.e e_assign ?_
  refine WL.next ?_
  refine WP.seq ?_
  refine WP.reg ?_
  refine WL.e e_move <| WL.e e_move <| WL.e e_makeFunc ?_
  refine WL.h (h_call (BSF_spec (k := k) hA hl hn (fun x => CallV.of_spec (fs := []) (cs := [.pointer (some ⟨b1, 0, none⟩)]) (cmpRow_spec x k b1) k213)) k212 ?_)
  refine WL.e e_extract <| WL.e e_extract <| WL.e e_assign <| WL.e e_assign ?_
  refine WL.next ?_
  refine WP.ret ?_
  exact PO.fin Tryz.results185 (rv_tmp (rv_tmp rv_nil)) hK
def Mm (p : Nat) (l : List RowM) : HP := fun S => ∃ x : SV, stars [cl p 223 [x.v, .bool true], Sl 40 2 RowM.c x.v l] S
theorem Mm_op {p : Nat} {l : List RowM} : ∀ S, Mm p l S → ∃ x : SV, stars [cl p 223 [x.v, .bool true], Sl 40 2 RowM.c x.v l] S := fun _ h => h
theorem find_spec {g : World} {p : Nat} {l : List RowM} (k : ByteArray) (hl : Rising l) (hn : l.length ≤ 68719476736) : Spec Tryz.prog g 157 [.pointer (some ⟨p, 0, none⟩), .string k] [Mm p l] fun K R => K (.tuple #[.int .i64 (lowI l k), .bool (hasI l k)]) (Mm p l :: R) := by
  refine Spec.intro Tryz.func157 rfl Tryz.ntmps157 rfl fun R K hK => ?_
  refine WP.opn (Mm_op (p := p) (l := l)) fun s => ?_
  refine WP.seq ?_
  refine WP.reg ?_
  refine WL.e e_assign <| WL.e e_assign ?_
  refine WL.next ?_
  refine WP.seq ?_
  refine WP.reg ?_
  refine WL.e e_move <| WL.e e_nil <| WL.e (e_fa f223_0) <| WL.e (e_load a29) <| WL.e e_move ?_
  refine WL.h (h_call (place_spec k (sl_rl (xs := l)) hl hn) k185 ?_)
  refine WL.e e_extract <| WL.e e_extract <| WL.e e_assign <| WL.e e_assign ?_
  refine WL.next ?_
  refine WP.ret ?_
  refine PO.cls (A := Mm p l) (B := [cl p 223 [s.v, .bool true], Sl 40 2 RowM.c (s.v) l]) (fun S h => ⟨s, h⟩) ?_
  exact PO.fin Tryz.results157 (rv_tmp (rv_tmp rv_nil)) hK
theorem MNew_spec {g : World} : Spec Tryz.prog g 71 [] [] fun K R => ∀ p, K (.pointer (some ⟨p, 0, none⟩)) (Mm p [] :: R) := by
  refine Spec.intro Tryz.func71 rfl Tryz.ntmps71 rfl fun R K hK => ?_
  refine WP.seq ?_
  refine WP.reg ?_
  refine WL.e e_assign ?_
  refine WL.next ?_
  refine WP.seq ?_
  refine WP.reg ?_
  refine WL.e (e_build z223 p223 (.z (.slice none 0 0) <| .o (.const (.bool true)) rfl <| .n)) ?_
  refine WL.h (h_box fun b1 => ?_)
  refine WL.e e_assign ?_
  refine WL.next ?_
  refine WP.ret ?_
  refine PO.nils 40 2 RowM.c none ?_
  refine PO.cls (A := Mm b1 []) (B := [cl b1 223 [.slice none 0 0, .bool true], Sl 40 2 RowM.c (.slice none 0 0) []]) (fun S h => ⟨⟨none, 0, 0⟩, h⟩) ?_
  exact PO.fin Tryz.results71 (rv_tmp rv_nil) (hK b1)
theorem Mthere_spec {g : World} {p : Nat} {l : List RowM} : Spec Tryz.prog g 122 [.pointer (some ⟨p, 0, none⟩)] [Mm p l] fun K R => K (.bool true) (Mm p l :: R) := by
  refine Spec.intro Tryz.func122 rfl Tryz.ntmps122 rfl fun R K hK => ?_
  refine WP.opn (Mm_op (p := p) (l := l)) fun s => ?_
  refine WP.seq ?_
  refine WP.reg ?_
  refine WL.e e_assign ?_
  refine WL.next ?_
  refine WP.seq ?_
  refine WP.reg ?_
  refine WL.e e_move <| WL.e (e_pne pt123) <| WL.e e_move ?_
  refine WL.bool 5 rfl (fun h => ?_) (fun h => ?_)
  · skip
    refine WL.e e_move <| WL.e e_nil <| WL.e (e_fa f223_1) <| WL.e (e_load a4) <| WL.e e_pick_t <| WL.e e_assign ?_
    refine WL.next ?_
    refine WP.ret ?_
    refine PO.cls (A := Mm p l) (B := [cl p 223 [s.v, .bool true], Sl 40 2 RowM.c (s.v) l]) (fun S h => ⟨s, h⟩) ?_
    exact PO.fin Tryz.results122 (rv_tmp rv_nil) hK
  · cases h -- end
theorem CloneR_spec {g : World} {A : HP} {u : Value} {xs : List RowM} (hA : RL A 2 RowM.c u xs) (hb : xs.length ≤ 68719476736) : Spec Tryz.prog g 90 [u] [A] fun K R => ∀ a m c, K (.slice a m c) (Sl 40 2 RowM.c (.slice a m c) xs :: A :: R) := by
  refine Spec.intro Tryz.func90 rfl Tryz.ntmps90 rfl fun R K hK => ?_
  refine WP.seq ?_
  refine WP.reg ?_
  refine WL.e e_assign ?_
  refine WL.next ?_
  refine WP.seq ?_
  refine WP.seq ?_
  refine WP.reg ?_
  refine WL.e e_move ?_
  refine WL.e (e_slnil sl29 hA) ?_
  refine WL.next ?_
  refine WP.cond rfl (fun h => ?_) (fun h => ?_)
  · refine WP.know (φ := xs = []) (Pick.know (A := A) (by exact .z) fun S hS => ?_) fun hx => ?_
    · rcases hA S hS with ⟨h0, _⟩ | ⟨b, o, c, l, t, e, _⟩
      · simpa using h0
      · rw [e] at h; cases h
    subst hx
    refine WP.nils 40 2 RowM.c none ?_
    refine WP.seq ?_
    refine WP.reg ?_
    refine WL.e e_assign ?_
    refine WL.next ?_
    refine WP.ret ?_
    refine PO.past nofun ?_
    exact PO.fin Tryz.results90 (rv_tmp rv_nil) (hK none 0 0)
  · skip
    refine WP.skip ?_
    refine PO.next ?_
    refine WP.seq ?_
    refine WP.reg ?_
    refine WL.h (h_bs0 sl29 (enc := RowM.c) fun a1 n1 c1 => ?_)
    refine WL.e e_move ?_
    refine WL.h (hl_append (xs := []) (ys := xs) sl29 rowE z40 hA (by simp; omega) fun a2 n2 c2 => ?_)
    rw [List.nil_append]
    refine WL.e e_assign ?_
    refine WL.next ?_
    refine WP.ret ?_
    exact PO.fin Tryz.results90 (rv_tmp rv_nil) (hK a2 n2 c2)
theorem Rows_spec {g : World} {p : Nat} {l : List RowM} (hn : l.length ≤ 68719476736) : Spec Tryz.prog g 74 [.pointer (some ⟨p, 0, none⟩)] [Mm p l] fun K R => ∀ a m c, K (.slice a m c) (Sl 40 2 RowM.c (.slice a m c) l :: Mm p l :: R) := by
  refine Spec.intro Tryz.func74 rfl Tryz.ntmps74 rfl fun R K hK => ?_
  refine WP.seq ?_
  refine WP.reg ?_
  refine WL.e e_assign ?_
  refine WL.next ?_
  refine WP.seq ?_
  refine WP.seq ?_
  refine WP.reg ?_
  refine WL.e e_move ?_
  refine WL.h (h_call (Mthere_spec) k122 ?_)
  refine WL.e e_not ?_
  refine WL.next ?_
  refine WP.cond rfl (fun h => ?_) (fun h => ?_)
  · cases h
  · refine WP.opn (Mm_op (p := p) (l := l)) fun s => ?_
    refine WP.skip ?_
    refine PO.next ?_
    refine WP.seq ?_
    refine WP.reg ?_
    refine WL.e e_move <| WL.e e_nil <| WL.e (e_fa f223_0) <| WL.e (e_load a29) ?_
    refine WL.h (h_call (CloneR_spec (sl_rl (xs := l)) hn) k90 ?_)
    intro a m c
    refine WL.e e_assign ?_
    refine WL.next ?_
    refine WP.ret ?_
    refine PO.cls (A := Mm p l) (B := [cl p 223 [s.v, .bool true], Sl 40 2 RowM.c (s.v) l]) (fun S h => ⟨s, h⟩) ?_
    exact PO.fin Tryz.results74 (rv_tmp rv_nil) (hK a m c)
theorem Twin_spec {g : World} {p : Nat} {l : List RowM} (hn : l.length ≤ 68719476736) : Spec Tryz.prog g 120 [.pointer (some ⟨p, 0, none⟩)] [Mm p l] fun K R => ∀ q, K (.pointer (some ⟨q, 0, none⟩)) (Mm q l :: Mm p l :: R) := by
  refine Spec.intro Tryz.func120 rfl Tryz.ntmps120 rfl fun R K hK => ?_
  refine WP.seq ?_
  refine WP.reg ?_
  refine WL.e e_assign ?_
  refine WL.next ?_
  refine WP.seq ?_
  refine WP.seq ?_
  refine WP.reg ?_
  refine WL.e e_move ?_
  refine WL.h (h_call (Mthere_spec) k122 ?_)
  refine WL.e e_not ?_
  refine WL.next ?_
  refine WP.cond rfl (fun h => ?_) (fun h => ?_)
  · cases h
  · skip
    refine WP.skip ?_
    refine PO.next ?_
    refine WP.seq ?_
    refine WP.reg ?_
    refine WL.e e_move ?_
    refine WL.h (h_call (Rows_spec hn) k74 ?_)
    intro a m c
    refine WL.e (e_build z223 p223 (.o (.tmp 7) rfl <| .o (.const (.bool true)) rfl <| .n)) ?_
    refine WL.h (h_box fun b1 => ?_)
    refine WL.e e_assign ?_
    refine WL.next ?_
    refine WP.ret ?_
    refine PO.cls (A := Mm b1 l) (B := [cl b1 223 [.slice a m c, .bool true], Sl 40 2 RowM.c (.slice a m c) l]) (fun S h => ⟨⟨a, m, c⟩, h⟩) ?_
    exact PO.fin Tryz.results120 (rv_tmp rv_nil) (hK b1)
end Go.SL
/- The steps of the walk: append within a block that is known whole. -/
set_option linter.unusedSimpArgs false
set_option linter.unusedVariables false
set_option linter.unusedSectionVars false
namespace Go.SL
open Go
theorem stars_one {b : Nat} {o : Obj} {S : Piece} (h : stars [pt b o] S) : pt b o S := by
  obtain ⟨S1, S2, _, h1, _, h2, _⟩ := h; exact h1 _ _ h2
section
variable {P : Program} {r : Option Nat} {g : World} {Γ : Env} {L M : List HP} {Q : Post} {dst : Option Tmp} {t : TypeId} {pos : String} {aft : Array Edge} {gd : Option (Nat × Bool)}
theorem h_append_at {T E z y n c k b o : Nat} {U : TypeId} {x xv : Operand} {u v : Value} {l ds : List Value} {B : HP} {N M' : List HP} {K : Value → List HP → Prop} (hs : slOf P T = some (E, z, y)) (hA : At u b o n c) (hl : o + c * z ≤ l.length) (hB : Rd B z v k ds) (h1 : ones ds = true) (hnk : n + k ≤ c)
    (hK : ∀ a, At (.slice a (n + k) c) b o (n + k) c → K (.slice a (n + k) c) N) (hx : ev Γ x = some u := by rfl) (hv : ev Γ xv = some v := by rfl) (p2 : Pick L B M' := by repeat first | exact .z | apply Pick.s) (hp : Put L (cl b U l) (cl b U (splice l (o + n * z) ds)) N := by repeat first | exact .z | apply Put.s) : HO P r g ⟨dst, .call ⟨.builtin .append, #[x, xv], #[T, T]⟩, t, pos, aft, gd⟩ Γ L K :=
  HO.run (by simp) fun a w ha hw => by
    obtain ⟨a', rfl, hn, hx'⟩ := hA
    obtain ⟨R, p1, _⟩ := hp.picks
    have hr := hw.rd p2 hB
    have hb := hw.get p1
    obtain ⟨hu, hsz, _⟩ := slOf_und hs
    have hm : (#[x, xv] : Array Operand).map a.eval = #[.slice a' n c, v] := by simp [ev_ok hx ha, ev_ok hv ha]
    have hm1 : (n + k) * z ≤ c * z := Nat.mul_le_mul_right _ hnk
    rw [Nat.add_mul] at hm1
    have hread := hr.read (P := P)
    have hlen := hr.len
    rcases hx' with rfl | rfl
    · obtain ⟨w', hrun, a1, a2, a3, a4, a5, a6⟩ := run_storeCells (P := P) (T := U) ds 0 (o + n * z) l w hb (by omega) (ones_ok h1)
      refine ⟨_, N, w', ?_, hK _ ⟨_, rfl, hnk, .inl rfl⟩, hw.set hp w' a1 a2 a3 a4 (by simpa using a5) a6⟩
      show (do let d ← resolve a.eval ⟨.builtin .append, #[x, xv], #[T, T]⟩ t; invoke d.target d.args : Sem Next).run P w = _
      simp only [resolve, hm, Sem.run_bind, Sem.run_pure, Result.andThen_ok, invoke, builtin]
      simp only [Builtin.append_, List.getElem?_toArray, List.getElem?_cons_zero, List.getElem?_cons_succ, Sem.run_bind, run_underlying hu, Result.andThen_ok, run_sizeOf hsz]
      simp [hread.1, hread.2, hnk, add_none, hrun]
    · have e1 : n = 0 := by omega
      have e2 : k = 0 := by omega
      subst e1; subst e2
      have hd : ds = [] := by simpa using hlen
      subst hd
      refine ⟨_, N, w, ?_, hK a' ⟨_, rfl, Nat.le_refl _, .inr rfl⟩, hw.set hp w rfl rfl rfl rfl (by simpa [splice] using hb) (fun _ _ => rfl)⟩
      show (do let d ← resolve a.eval ⟨.builtin .append, #[x, xv], #[T, T]⟩ t; invoke d.target d.args : Sem Next).run P w = _
      simp only [resolve, hm, Sem.run_bind, Sem.run_pure, Result.andThen_ok, invoke, builtin]
      simp only [Builtin.append_, List.getElem?_toArray, List.getElem?_cons_zero, List.getElem?_cons_succ, Sem.run_bind, run_underlying hu, Result.andThen_ok, run_sizeOf hsz]
      cases a' <;> simp [hread.1, hread.2, storeCells]
theorem splice_mid (U V W vs : List Value) (h : vs.length = V.length) : splice (U ++ V ++ W) U.length vs = U ++ vs ++ W := by
  rw [splice_eq _ _ _ (by simp [h])]
  rw [List.append_assoc U V W, List.take_left, ← List.append_assoc, List.drop_append, List.drop_eq_nil_of_le (by simp [h])]
  simp [h]
theorem del_cells {α : Type} {z o c : Nat} {enc : α → List Value} (he : EncOk z enc) {l zs : List Value} {A D : List α} {x : α} (hl : o + c * z ≤ l.length) (hc : (A ++ x :: D).length ≤ c) (hcs : (l.drop o).take ((A ++ x :: D).length * z) = (A ++ x :: D).flatMap enc) (hz : zs.length = z) :
    ((splice (splice l (o + A.length * z) (D.flatMap enc)) (o + (A.length + D.length) * z) zs).drop o).take ((A ++ D).length * z) = (A ++ D).flatMap enc ∧ (splice (splice l (o + A.length * z) (D.flatMap enc)) (o + (A.length + D.length) * z) zs).length = l.length := by
  have hm : (A ++ x :: D).length * z ≤ c * z := Nat.mul_le_mul_right _ hc
  have hlP : (l.take o).length = o := by simp; omega
  have el : l = l.take o ++ (A ++ x :: D).flatMap enc ++ l.drop (o + (A ++ x :: D).length * z) := by
    rw [← hcs, List.append_assoc]
    conv => lhs; rw [← List.take_append_drop o l]
    congr 1
    rw [← List.drop_drop]; exact (List.take_append_drop _ _).symm
  generalize hP : l.take o = P at el hlP
  generalize l.drop (o + (A ++ x :: D).length * z) = S at el
  have hfA := flat_len he A
  have hfD := flat_len he D
  have hfx := he.len x
  have e1 : l = (P ++ A.flatMap enc) ++ ((enc x ++ D.flatMap enc).take (D.flatMap enc).length) ++ ((enc x ++ D.flatMap enc).drop (D.flatMap enc).length ++ S) := by
    rw [el]; simp only [List.flatMap_append, List.flatMap_cons, List.append_assoc]
    rw [← List.append_assoc (List.take _ _), List.take_append_drop]; simp
  have hU : (P ++ A.flatMap enc).length = o + A.length * z := by simp [hfA, hlP]
  have s1 : splice l (o + A.length * z) (D.flatMap enc) = (P ++ A.flatMap enc) ++ D.flatMap enc ++ ((enc x ++ D.flatMap enc).drop (D.flatMap enc).length ++ S) := by
    rw [e1, ← hU, splice_mid _ _ _ _ (by simp)]
  have hU2 : (P ++ A.flatMap enc ++ D.flatMap enc).length = o + (A.length + D.length) * z := by simp [hfA, hfD, hlP, Nat.add_mul]
  have s2 : splice (splice l (o + A.length * z) (D.flatMap enc)) (o + (A.length + D.length) * z) zs = P ++ (A.flatMap enc ++ D.flatMap enc) ++ (zs ++ S) := by
    rw [s1, ← List.append_assoc _ _ S, ← hU2, splice_mid _ _ _ _ (by rw [List.length_drop, List.length_append]; omega)]; simp
  have hlen : l.length = P.length + (A ++ x :: D).length * z + S.length := by
    conv => lhs; rw [el]
    simp only [List.length_append, flat_len he]
  rw [s2]
  refine ⟨?_, ?_⟩
  · rw [List.append_assoc, ← hlP, List.drop_left, ← List.flatMap_append, ← flat_len he, List.take_left]
  · rw [hlen]; simp only [List.length_append, List.length_cons, hfA, hfD, hz, Nat.add_mul, Nat.one_mul]; omega
end
end Go.SL
/- What the functions compute, in plain Lean: rows that are set and dropped. -/
set_option linter.unusedSimpArgs false
set_option linter.unusedVariables false
set_option linter.unusedSectionVars false
namespace Go.SL
open Go
theorem split_el {α : Type} {xs : List α} {i : Nat} {x : α} (h : xs[i]? = some x) : ∃ A D, xs = A ++ x :: D ∧ A.length = i := by
  have hlt := idx_lt h
  refine ⟨xs.take i, xs.drop (i + 1), ?_, by simp; omega⟩
  rw [List.getElem?_eq_getElem hlt] at h; cases h
  rw [List.getElem_cons_drop, List.take_append_drop]
theorem erase_mid {α : Type} (A D : List α) (x : α) : (A ++ x :: D).eraseIdx A.length = A ++ D := by
  rw [List.eraseIdx_append_of_length_le (Nat.le_refl _)]; simp
theorem rd_part {α : Type} {z o b n c : Nat} {enc : α → List Value} (he : EncOk z enc) {T : TypeId} {l : List Value} {xs : List α} {u : Value} (hA : At u b o n c) (hl : o + c * z ≤ l.length) (hn : xs.length = n) (hcs : (l.drop o).take (n * z) = xs.flatMap enc) : RL (cl b T l) z enc u xs := by
  unfold RL; rw [hn, ← hcs]; exact hA.rd hl
theorem cells_tail {α : Type} {z o : Nat} {enc : α → List Value} (he : EncOk z enc) {l : List Value} {A D : List α} {x : α} (hcs : (l.drop o).take ((A ++ x :: D).length * z) = (A ++ x :: D).flatMap enc) : (l.drop (o + (A.length + 1) * z)).take (D.length * z) = D.flatMap enc := by
  have := congrArg (List.drop ((A.length + 1) * z)) hcs
  rw [List.drop_take, flat_drop he, List.drop_drop, ← Nat.sub_mul] at this
  rw [show (A ++ x :: D).length - (A.length + 1) = D.length by simp; omega, show (A ++ x :: D).drop (A.length + 1) = D by rw [List.drop_append]; simp [List.drop_eq_nil_of_le]] at this
  exact this
end Go.SL

import Derived.Test.YtdfomffmfnpfoaaGreatM5
import Derived.Test.YtdfomffmfnpfoaaGreatProg
import Derived.KernelRfl
set_option linter.unusedSimpArgs false
set_option linter.unusedVariables false
namespace Go.SL.W5
open Go Go.Proofs Go.SL
theorem a121 : aggOf Tryz.prog 121 = some none := by kernel_rfl
theorem a25 : aggOf Tryz.prog 25 = some none := by kernel_rfl
theorem a3 : aggOf Tryz.prog 3 = some none := by kernel_rfl
theorem a73 : aggOf Tryz.prog 73 = some none := by kernel_rfl
theorem a81 : aggOf Tryz.prog 81 = some none := by kernel_rfl
theorem f141_0 : fldOf Tryz.prog 141 0 = some 0 := by kernel_rfl
theorem f141_1 : fldOf Tryz.prog 141 1 = some 1 := by kernel_rfl
theorem f143_0 : fldOf Tryz.prog 143 0 = some 0 := by kernel_rfl
theorem k105 : callable Tryz.prog 105 = true := by kernel_rfl
theorem k106 : callable Tryz.prog 106 = true := by kernel_rfl
theorem k45 : callable Tryz.prog 45 = true := by kernel_rfl
theorem k61 : callable Tryz.prog 61 = true := by kernel_rfl
theorem k62 : callable Tryz.prog 62 = true := by kernel_rfl
theorem k63 : callable Tryz.prog 63 = true := by kernel_rfl
theorem k64 : callable Tryz.prog 64 = true := by kernel_rfl
theorem k65 : callable Tryz.prog 65 = true := by kernel_rfl
theorem k80 : callable Tryz.prog 80 = true := by kernel_rfl
theorem k81 : callable Tryz.prog 81 = true := by kernel_rfl
theorem k82 : callable Tryz.prog 82 = true := by kernel_rfl
theorem mixedOk : Tryz.prog.follows .mixedOrders = true := by kernel_rfl
theorem p141 : placesOf Tryz.prog 141 = some [(0, 1), (1, 1)] := by kernel_rfl
theorem p143 : placesOf Tryz.prog 143 = some [(0, 2)] := by kernel_rfl
theorem pt25 : isPtr Tryz.prog 25 = true := by kernel_rfl
theorem pt73 : isPtr Tryz.prog 73 = true := by kernel_rfl
theorem s121 : szOf Tryz.prog 121 = some 1 := by kernel_rfl
theorem s3 : szOf Tryz.prog 3 = some 1 := by kernel_rfl
theorem s73 : szOf Tryz.prog 73 = some 1 := by kernel_rfl
theorem s81 : szOf Tryz.prog 81 = some 1 := by kernel_rfl
theorem sl121 : slOf Tryz.prog 121 = some (81, 1, 24) := by kernel_rfl
theorem sl81 : slOf Tryz.prog 81 = some (5, 1, 1) := by kernel_rfl
theorem z121 : zeroOf Tryz.prog 121 = some [.slice none 0 0] := by kernel_rfl
theorem z141 : zeroOf Tryz.prog 141 = some [.pointer none, .int .i64 0] := by kernel_rfl
theorem z143 : zeroOf Tryz.prog 143 = some [.pointer none, .int .i64 0] := by kernel_rfl
theorem z5 : zeroOf Tryz.prog 5 = some [.int .u8 0] := by kernel_rfl
theorem z73 : zeroOf Tryz.prog 73 = some [.pointer none] := by kernel_rfl
theorem z81 : zeroOf Tryz.prog 81 = some [.slice none 0 0] := by kernel_rfl
end Go.SL.W5
namespace Go.SL
open Go Go.Proofs W5
/-- A log. -/
def Lg (l p i : Nat) : HP := cl l 143 [.pointer (some ⟨p, 0, none⟩), .int .i64 i]

theorem there_spec {g : World} {l p i : Nat} : Spec Tryz.prog g 61 [.pointer (some ⟨l, 0, none⟩)] [cl l 143 [.pointer (some ⟨p, 0, none⟩), .int .i64 i]] fun K R => K (.bool true) (cl l 143 [.pointer (some ⟨p, 0, none⟩), .int .i64 i] :: R) := by
  refine Spec.intro Tryz.func61 rfl Tryz.ntmps61 rfl fun R K hK => ?_
  refine WP.seq ?_
  refine WP.reg ?_
  refine WL.e e_assign ?_
  refine WL.next ?_
  refine WP.seq ?_
  refine WP.reg ?_
  refine WL.e e_move <| WL.e (e_pne pt73) <| WL.e e_move ?_
  refine WL.bool 5 rfl (fun h => ?_) (fun h => ?_)
  · skip
    refine WL.e e_move <| WL.e e_nil <| WL.e (e_fa f143_0) <| WL.e (e_fa f141_0) <| WL.e (e_load a25) <| WL.e (e_pne pt25) <| WL.e e_pick_t <| WL.e e_assign ?_
    refine WL.next ?_
    refine WP.ret ?_
    exact PO.fin Tryz.results61 (rv_tmp rv_nil) hK
  · cases h -- end

theorem left_spec {g : World} {l p i : Nat} {d : DiskM} (hi : i ≤ d.sure.length) (hl : d.sure.length ≤ 4096) : Spec Tryz.prog g 63 [.pointer (some ⟨l, 0, none⟩)] [cl l 143 [.pointer (some ⟨p, 0, none⟩), .int .i64 i], Dk p d] fun K R => K (.int .i64 (d.sure.length - i : Nat)) (cl l 143 [.pointer (some ⟨p, 0, none⟩), .int .i64 i] :: Dk p d :: R) := by
  refine Spec.intro Tryz.func63 rfl Tryz.ntmps63 rfl fun R K hK => ?_
  refine WP.seq ?_
  refine WP.reg ?_
  refine WL.e e_assign ?_
  refine WL.next ?_
  refine WP.seq ?_
  refine WP.draws mixedOk 11 ?_
  refine RW.e 0 rfl e_move <| RW.e 1 rfl e_nil <| RW.e 2 rfl (e_fa f141_0) <| RW.e 3 rfl (e_load a25) <| RW.e 5 rfl e_move <| RW.e 6 rfl e_nil <| RW.e 7 rfl (e_fa f141_1) <| RW.e 8 rfl (e_load a3) ?_
  refine RW.any (is := [4]) rfl ⟨?_, trivial⟩
  refine RWat.h rfl rfl rfl ?_
  refine (h_call (Size_spec) k45 ?_)
  refine ⟨⟨⟨_, rfl, .inl ⟨rfl, (e_load a3)⟩⟩, ⟨_, rfl, .inl ⟨rfl, (e_fa f141_1)⟩⟩, ⟨_, rfl, .inl ⟨rfl, e_nil⟩⟩, ⟨_, rfl, .inl ⟨rfl, e_move⟩⟩, trivial⟩, ?_⟩
  refine RW.e 9 rfl (e_sub (c := ((d.sure.length - i : Nat) : Int)) rfl rfl (by rw [w_i64 (by omega) (by omega)]; omega)) <| RW.e 10 rfl e_assign ?_
  refine RW.done ?_
  refine PO.next ?_
  refine WP.ret ?_
  exact PO.fin Tryz.results63 (rv_tmp rv_nil) hK

theorem Force_spec {g : World} {l p i : Nat} {d : DiskM} (hd : d.ok) : Spec Tryz.prog g 30 [.pointer (some ⟨l, 0, none⟩)] [cl l 143 [.pointer (some ⟨p, 0, none⟩), .int .i64 i], Dk p d] fun K R => K (.int .i64 0) (cl l 143 [.pointer (some ⟨p, 0, none⟩), .int .i64 i] :: Dk p d.sync :: R) := by
  refine Spec.intro Tryz.func30 rfl Tryz.ntmps30 rfl fun R K hK => ?_
  refine WP.seq ?_
  refine WP.reg ?_
  refine WL.e e_assign ?_
  refine WL.next ?_
  refine WP.seq ?_
  refine WP.seq ?_
  refine WP.reg ?_
  refine WL.e e_move ?_
  refine WL.h (h_call (there_spec) k61 ?_)
  refine WL.e e_not ?_
  refine WL.next ?_
  refine WP.cond_f rfl ?_
  refine WP.skip ?_
  refine PO.next ?_
  refine WP.seq ?_
  refine WP.reg ?_
  refine WL.e e_move <| WL.e e_nil <| WL.e (e_fa f143_0) <| WL.e (e_fa f141_0) <| WL.e (e_load a25) ?_
  refine WL.h (h_call (Sync_spec hd.pos hd.len) k65 ?_)
  refine WL.e e_assign ?_
  refine WL.next ?_
  refine WP.ret ?_
  exact PO.fin Tryz.results30 (rv_tmp rv_nil) hK

theorem Add_spec {g : World} {A : HP} {l p i : Nat} {d : DiskM} {u : Value} {b : List UInt8} (hA : RL A 1 eB u b) (hd : d.ok) (hi : i ≤ d.sure.length) (hw : d.waits.length < 4000000000) :
    Spec Tryz.prog g 28 [.pointer (some ⟨l, 0, none⟩), u] [cl l 143 [.pointer (some ⟨p, 0, none⟩), .int .i64 i], Dk p d, A] fun K R => (16384 < b.length → K (.int .i64 3) (cl l 143 [.pointer (some ⟨p, 0, none⟩), .int .i64 i] :: Dk p d :: A :: R)) ∧ (b.length ≤ 16384 → d.sure.length < i + secs b.length → K (.int .i64 5) (cl l 143 [.pointer (some ⟨p, 0, none⟩), .int .i64 i] :: Dk p d :: A :: R)) ∧
      (b.length ≤ 16384 → i + secs b.length ≤ d.sure.length → K (.int .i64 0) (cl l 143 [.pointer (some ⟨p, 0, none⟩), .int .i64 (i + secs b.length : Nat)] :: Dk p (addW d i (frame b) (secs b.length)) :: A :: R)) := by
  refine Spec.intro Tryz.func28 rfl Tryz.ntmps28 rfl fun R K hK => ?_
  refine WP.seq ?_
  refine WP.reg ?_
  refine WL.e e_assign ?_
  refine WL.next ?_
  refine WP.seq ?_
  refine WP.seq ?_
  refine WP.reg ?_
  refine WL.e e_move ?_
  refine WL.h (h_call (there_spec) k61 ?_)
  refine WL.e e_not ?_
  refine WL.next ?_
  refine WP.cond_f rfl ?_
  refine WP.skip ?_
  refine PO.next ?_
  refine WP.seq ?_
  refine WP.reg ?_
  refine WL.e e_move ?_
  refine WL.h (h_call (Put_spec hA) k62 ?_)
  refine ⟨fun h1 => ?_, fun h1 a1 n1 c1 => ?_⟩
  · skip
    refine WL.e e_move <| WL.e e_extract <| WL.e e_extract <| WL.e e_assign <| WL.e e_assign ?_
    refine WL.next ?_
    refine WP.seq ?_
    refine WP.block ?_
    refine WP.seq ?_
    refine WP.reg ?_
    refine WL.e e_move <| WL.e e_neq <| WL.e e_assign ?_
    refine WL.next ?_
    refine WP.cond_t rfl ?_
    refine WP.seq ?_
    refine WP.reg ?_
    refine WL.e e_move <| WL.e e_assign ?_
    refine WL.next ?_
    refine WP.ret ?_
    refine PO.blockR ?_
    refine PO.past nofun ?_
    exact PO.fin Tryz.results28 (rv_tmp rv_nil) (hK.1 h1)
  · have hdl := hd.le
    have hs1 := secs_le b.length
    have hs2 := secs_ub b.length
    refine WL.e e_move <| WL.e e_extract <| WL.e e_extract <| WL.e e_assign <| WL.e e_assign ?_
    refine WL.next ?_
    refine WP.seq ?_
    refine WP.block ?_
    refine WP.seq ?_
    refine WP.reg ?_
    refine WL.e e_move <| WL.e e_neq <| WL.e e_assign ?_
    refine WL.next ?_
    refine WP.cond_f rfl ?_
    refine WP.seq ?_
    refine WP.reg ?_
    refine WL.e e_move ?_
    refine WL.e (el_len (xs := frame b) sl81 sl_rl) <| WL.e e_move <| WL.e e_nil <| WL.e (e_fa f143_0) ?_
    refine WL.h (h_call (left_spec (d := d) hi hd.le) k63 ?_)
    refine WL.e (e_mul (c := (((d.sure.length - i) * 64 : Nat) : Int)) rfl rfl (by rw [w_i64 (by omega) (by omega)]; omega)) <| WL.e e_gtr <| WL.e e_assign ?_
    refine WL.next ?_
    refine WP.cond rfl (fun h2 => ?_) (fun h2 => ?_)
    · replace h2 : d.sure.length < i + secs b.length := by rw [decide_eq_true_eq, frame_len] at h2; omega
      refine WP.seq ?_
      refine WP.reg ?_
      refine WL.e e_assign ?_
      refine WL.next ?_
      refine WP.ret ?_
      refine PO.blockR ?_
      refine PO.past nofun ?_
      exact PO.fin Tryz.results28 (rv_tmp rv_nil) (hK.2.1 h1 h2)
    · replace h2 : i + secs b.length ≤ d.sure.length := by rw [decide_eq_false_iff_not, frame_len] at h2; omega
      refine WP.skip ?_
      refine PO.blockN ?_
      refine PO.next ?_
      refine WP.seq ?_
      refine WP.block ?_
      refine WP.loopK (fun (x : Value × List UInt8 × Nat × Nat × DiskM) => [(5, x.1)]) (fun (x : Value × List UInt8 × Nat × Nat × DiskM) => cl l 143 [.pointer (some ⟨p, 0, none⟩), .int .i64 x.2.2.2.1] :: Dk p x.2.2.2.2 :: Sl 5 1 eB (.slice a1 n1 c1) (frame b) :: A :: R) [(0, _), (4, _)] (fun (x : Value × List UInt8 × Nat × Nat × DiskM) => RL (Sl 5 1 eB (.slice a1 n1 c1) (frame b)) 1 eB x.1 x.2.1 ∧ x.2.1.length = x.2.2.1 * 64 ∧ addW x.2.2.2.2 x.2.2.2.1 x.2.1 x.2.2.1 = addW d i (frame b) (secs b.length) ∧ x.2.2.2.1 + x.2.2.1 = i + secs b.length ∧ x.2.2.2.2.ok ∧ x.2.2.2.2.sure = d.sure ∧ x.2.2.2.2.waits.length + x.2.2.1 = d.waits.length + secs b.length) (fun (x : Value × List UInt8 × Nat × Nat × DiskM) => x.2.2.1) (.slice a1 n1 c1, frame b, secs b.length, i, d) (⟨sl_rl, frame_len b, rfl, rfl, hd, rfl, rfl⟩) ?_
      rintro ⟨w, bs, k, j, e⟩ ⟨hr, hl, he, hj, hok, hsu, hwt⟩
      simp only at hr hl he hj hok hsu hwt
      dsimp only
      refine WP.seq ?_
      refine WP.seq ?_
      refine WP.reg ?_
      refine WL.e e_move ?_
      refine WL.e (el_len sl81 hr) <| WL.e e_gtr ?_
      refine WL.next ?_
      refine WP.cond rfl (fun h3 => ?_) (fun h3 => ?_)
      · obtain ⟨m, rfl⟩ : ∃ m, k = m + 1 := ⟨k - 1, by rw [decide_eq_true_eq] at h3; omega⟩
        refine WP.skip ?_
        refine PO.next ?_
        refine WP.seq ?_
        refine WP.block ?_
        refine WP.seq ?_
        refine WP.draws mixedOk 13 ?_
        refine RW.e 0 rfl e_move <| RW.e 1 rfl e_nil <| RW.e 2 rfl (e_fa f143_0) <| RW.e 3 rfl (e_fa f141_0) <| RW.e 4 rfl (e_load a25) <| RW.e 5 rfl e_move <| RW.e 6 rfl e_nil <| RW.e 7 rfl (e_fa f143_0) <| RW.e 8 rfl (e_fa f141_1) <| RW.e 9 rfl (e_load a3) <| RW.e 10 rfl e_move ?_
        refine RW.e 11 rfl (el_to (hi := 64) sl81 hr (by omega)) ?_
        refine RW.any (is := [12]) rfl ⟨?_, trivial⟩
        refine RWat.h rfl rfl rfl ?_
        refine (h_call (Write_spec (d := e) (b := bs.take 64) j (RL.to_ (hi := 64) eB_ok hr (by omega)) (by rw [hsu]; omega) hok.len hok.le (by simp; omega) (by omega)) k64 ?_)
        refine ⟨trivial, ?_⟩
        refine RW.done ?_
        refine PO.next ?_
        refine WP.reg ?_
        refine WL.e e_move <| WL.e e_nil <| WL.e (e_fa f143_0) <| WL.e (e_fa f141_1) <| WL.e (e_load a3) <| WL.e (e_add (c := ((j + 1 : Nat) : Int)) rfl rfl (by rw [w_i64 (by omega) (by omega)]; omega)) <| WL.e e_nil <| WL.e (e_fa f143_0) <| WL.e (e_fa f141_1) ?_
        refine WL.h' (h_store s3 ?_)
        refine WL.nil ?_
        refine PO.blockN ?_
        refine PO.next ?_
        refine WP.reg ?_
        refine WL.e e_move ?_
        refine WL.e (el_from (lo := 64) sl81 hr (by omega)) <| WL.e e_assign ?_
        refine WL.nil ?_
        exact PO.againK (subV w 64 bs.length none 1, bs.drop 64, m, j + 1, e.write j (bs.take 64)) ⟨RL.from_ eB_ok hr (by omega), by simp; omega, he, by simp only; omega, hok.write _ _, hsu, by simp [DiskM.write]; omega⟩ (by simp only; omega)
      · obtain rfl : k = 0 := by rw [decide_eq_false_iff_not] at h3; omega
        obtain rfl : j = i + secs b.length := by omega
        simp only [addW] at he
        subst he
        refine WP.exit ?_
        refine PO.past nofun ?_
        refine PO.round nofun ?_
        refine PO.blockX ?_
        refine PO.next ?_
        refine WP.seq ?_
        refine WP.reg ?_
        refine WL.e e_assign ?_
        refine WL.next ?_
        refine WP.ret ?_
        exact PO.fin Tryz.results28 (rv_tmp rv_nil) (hK.2.2 h1 h2)

/-- A record that is told: its slice, its bytes, its sectors. -/
abbrev RecV := SV × List UInt8 × Nat
def recE (x : RecV) : List Value := [x.1.v, .int .i64 x.2.2]
def recR (x : RecV) : HP := Sl 5 1 eB x.1.v x.2.1

theorem found_iter {g : World} {A : HP} {c1 : Nat} {w : SV} {b : List UInt8} (hA : RL A 1 eB w.v b) (hb : b.length ≤ 68719476736) :
    Iter Tryz.prog g 105 (fun y => [] ++ [y] ++ [.pointer (some ⟨c1, 0, none⟩)]) [cl c1 81 [w.v], A] recE recR (fun xs => xs.map (·.2) = recs b) (fun pre => pre.map (·.2) <+: recs b) [A] := by
  intro y J X cont hy
  refine Spec.intro Tryz.func105 rfl Tryz.ntmps105 rfl fun R K hK => ?_
  refine WP.block ?_
  refine WP.loopK (fun (x : SV × List UInt8 × List RecV) => []) (fun (x : SV × List UInt8 × List RecV) => J x.2.2 :: cl c1 81 [x.1.v] :: A :: R) [(0, _), (1, _)] (fun (x : SV × List UInt8 × List RecV) => RL A 1 eB x.1.v x.2.1 ∧ x.2.1.length ≤ b.length ∧ x.2.2.map (·.2) ++ recs x.2.1 = recs b ∧ Hist cont x.2.2) (fun (x : SV × List UInt8 × List RecV) => x.2.1.length) (w, b, []) (⟨hA, Nat.le_refl _, rfl, Hist.nil⟩) ?_
  rintro ⟨w1, b1, pre⟩ ⟨hr, hl, he, hh⟩
  simp only at hr hl he hh
  dsimp only
  refine WP.block ?_
  refine WP.seq ?_
  refine WP.reg ?_
  refine WL.e (e_load a81) ?_
  refine WL.h (h_call (Get_spec hr (by omega)) k106 ?_)
  refine ⟨fun hg => ?_, fun r m hg a2 n2 c2 => ?_⟩
  · skip
    refine WL.e e_move <| WL.e e_extract <| WL.e e_extract <| WL.e e_extract <| WL.e e_assign <| WL.e e_assign <| WL.e e_assign ?_
    refine WL.next ?_
    refine WP.seq ?_
    refine WP.seq ?_
    refine WP.reg ?_
    refine WL.e e_move <| WL.e e_neq <| WL.e e_move ?_
    refine WL.bool 14 rfl (fun h => ?_) (fun h => ?_)
    · skip
      refine WL.skip <| WL.skip <| WL.skip <| WL.skip <| WL.skip <| WL.e e_pick_t ?_
      refine WL.next ?_
      refine WP.cond_t rfl ?_
      refine WP.ret ?_
      refine PO.past nofun ?_
      refine PO.blockR ?_
      refine PO.round nofun ?_
      refine PO.blockR ?_
      exact PO.fin Tryz.results105 rv_nil (hK.1 pre (by rw [← he, recs_none hg]; simp) hh)
    · simp at h -- end
  · have hm := getF_some hg
    have hpf : (pre ++ [((⟨a2, n2, c2⟩, r, m) : RecV)]).map (·.2) <+: recs b := by rw [← he, recs_some hg]; simp
    refine WL.e e_move <| WL.e e_extract <| WL.e e_extract <| WL.e e_extract <| WL.e e_assign <| WL.e e_assign <| WL.e e_assign ?_
    refine WL.next ?_
    refine WP.seq ?_
    refine WP.seq ?_
    refine WP.reg ?_
    refine WL.e e_move <| WL.e e_neq <| WL.e e_move ?_
    refine WL.bool 14 rfl (fun h => ?_) (fun h => ?_)
    · simp at h -- end
    · skip
      refine WL.e e_move <| WL.e e_move <| WL.e e_move ?_
      refine WL.h (h_cally (hy pre (⟨a2, n2, c2⟩, r, m) hpf hh) ?_)
      refine ⟨fun hc => ?_, fun hc => ?_⟩
      · skip
        refine WL.e e_not <| WL.e e_pick_f ?_
        refine WL.next ?_
        refine WP.cond_f rfl ?_
        refine WP.skip ?_
        refine PO.next ?_
        refine WP.reg ?_
        refine WL.e (e_load a81) <| WL.e e_move <| WL.e (e_mul (c := ((m * 64 : Nat) : Int)) rfl rfl (by rw [w_i64 (by omega) (by omega)]; omega)) ?_
        refine WL.e (el_from (lo := m * 64) sl81 hr hm.2.1) ?_
        refine WL.h' (h_store s81 ?_)
        refine WL.nil ?_
        refine PO.blockN ?_
        exact PO.againK (subS w1 (m * 64) b1.length 1, b1.drop (m * 64), pre ++ [(⟨a2, n2, c2⟩, r, m)]) ⟨by rw [subS_eq]; exact RL.from_ eB_ok hr hm.2.1, by simp; omega, by rw [← he, recs_some hg]; simp, hh.snoc hc⟩ (by simp; omega)
      · skip
        refine WL.e e_not <| WL.e e_pick_f ?_
        refine WL.next ?_
        refine WP.cond_t rfl ?_
        refine WP.ret ?_
        refine PO.past nofun ?_
        refine PO.blockR ?_
        refine PO.round nofun ?_
        refine PO.blockR ?_
        exact PO.fin Tryz.results105 rv_nil (hK.2 pre (⟨a2, n2, c2⟩, r, m) hpf hh hc)

theorem found_spec {g : World} {w : SV} : Spec Tryz.prog g 81 [w.v] [] fun K R => ∀ c1, K (.func (.func 105) #[] #[.pointer (some ⟨c1, 0, none⟩)]) (cl c1 81 [w.v] :: R) := by
  refine Spec.intro Tryz.func81 rfl Tryz.ntmps81 rfl fun R K hK => ?_
  refine WP.seq ?_
  refine WP.reg ?_
  refine WL.h (h_box fun b1 => ?_)
  refine WL.e e_assign ?_
  refine WL.next ?_
  refine WP.seq ?_
  refine WP.reg ?_
  refine WL.e e_makeFunc <| WL.e e_assign ?_
  refine WL.next ?_
  refine WP.ret ?_
  exact PO.fin Tryz.results81 (rv_tmp rv_nil) (hK b1)

def recC (x : RecV) : List Value := [x.1.v]
theorem recCE : EncOk 1 recC := ⟨fun _ => rfl, fun _ => rfl⟩
def RecsR (l : List RecV) : HP := bun (l.map recR)
theorem RecsR_snoc {l : List RecV} {x : RecV} : ∀ S, stars [RecsR l, recR x] S → RecsR (l ++ [x]) S := fun S h => by
  have := stars_bun h
  unfold RecsR bun
  rwa [List.map_append]
theorem RecsR_nil {L : List HP} {S : Piece} (h : stars L S) : stars (RecsR [] :: L) S := bun_stars (L := []) h
def tot (l : List RecV) : Nat := (l.map (·.2.2)).sum
def OpJ (b2 bl b3 p : Nat) (pre : List RecV) : HP := fun S => ∃ sv : SV, stars [cl b2 73 [.pointer (some ⟨bl, 0, none⟩)], cl bl 143 [.pointer (some ⟨p, 0, none⟩), .int .i64 (tot pre)], cl b3 121 [sv.v], Sl 81 1 recC sv.v pre, RecsR pre] S
theorem tot_le {all : List UInt8} {pre : List RecV} (h : pre.map (·.2) <+: recs all) : tot pre * 64 ≤ all.length ∧ pre.length * 64 ≤ all.length := by
  obtain ⟨t, ht⟩ := h
  have h1 := recs_le _ all (Nat.le_refl _)
  rw [← ht] at h1
  simp only [List.map_append, List.sum_append, List.length_append, List.length_map, List.map_map] at h1
  have e : (pre.map ((fun x => x.2) ∘ fun x => x.2)).sum = tot pre := rfl
  rw [e] at h1
  omega
theorem tot_snoc (pre : List RecV) (x : RecV) : tot (pre ++ [x]) = tot pre + x.2.2 := by simp [tot]

theorem Open_spec {g : World} {p : Nat} {d : DiskM} (hd : d.ok) (hw : d.waits.length < 4000000000) : Spec Tryz.prog g 47 [.pointer (some ⟨p, 0, none⟩)] [Dk p d] fun K R => ∀ (l : Nat) (sv : SV) (xs : List RecV), xs.map (·.2) = recs d.seen.flatten → K (.tuple #[.pointer (some ⟨l, 0, none⟩), sv.v, .int .i64 0]) (cl l 143 [.pointer (some ⟨p, 0, none⟩), .int .i64 (tot xs)] :: Sl 81 1 recC sv.v xs :: RecsR xs :: Dk p (cleanTo d.seen.flatten d (tot xs) (d.sure.length - tot xs)).sync :: R) := by
  refine Spec.intro Tryz.func47 rfl Tryz.ntmps47 rfl fun R K hK => ?_
  refine WP.seq ?_
  refine WP.reg ?_
  refine WL.h (h_alloc z73 fun b1 => ?_)
  refine WL.h (h_alloc z121 fun b2 => ?_)
  refine WL.e e_assign ?_
  refine WL.next ?_
  refine WP.seq ?_
  refine WP.seq ?_
  refine WP.reg ?_
  refine WL.e e_move ?_
  refine WL.h (h_call (Size_spec) k45 ?_)
  refine WL.e e_eql ?_
  refine WL.next ?_
  refine WP.cond rfl (fun h => ?_) (fun h => ?_)
  · rw [beq_iff_eq] at h; have := hd.pos; omega
  · have hle := hd.le
    have hlen := hd.len
    refine WP.skip ?_
    refine PO.next ?_
    refine WP.seq ?_
    refine WP.reg ?_
    refine WL.e e_assign ?_
    refine WL.next ?_
    refine WP.seq ?_
    refine WP.seq ?_
    refine WP.reg ?_
    refine WL.e e_move ?_
    refine WL.h (h_call (Size_spec) k45 ?_)
    refine WL.e e_move ?_
    refine WL.next ?_
    refine WP.block ?_
    refine WP.nils 5 1 eB none ?_
    refine WP.loopK (fun (x : Nat × Value) => [(18, .int .i64 x.1), (5, x.2)]) (fun (x : Nat × Value) => Sl 5 1 eB x.2 (d.seen.take x.1).flatten :: cl b1 73 [.pointer none] :: cl b2 121 [.slice none 0 0] :: Dk p d :: R) [(0, _), (2, _), (3, _), (4, _), (17, _)] (fun (x : Nat × Value) => x.1 ≤ d.sure.length) (fun (x : Nat × Value) => d.sure.length - x.1) (0, .slice none 0 0) (Nat.zero_le _) ?_
    rintro ⟨i, u5⟩ hx1
    simp only at hx1
    dsimp only
    refine WP.seq ?_
    refine WP.reg ?_
    refine WL.e e_lss ?_
    refine WL.next ?_
    refine WP.seq ?_
    refine WP.cond rfl (fun h2 => ?_) (fun h2 => ?_)
    · have hlt : i < d.sure.length := by rw [decide_eq_true_eq] at h2; omega
      obtain ⟨q, hq⟩ : ∃ q, d.seen[i]? = some q := ⟨_, List.getElem?_eq_getElem (by omega)⟩
      have hq64 := hd.l2 q (List.mem_of_getElem? hq)
      have hfl : (d.seen.take i).flatten.length = i * 64 := by rw [flat_seen (fun p hp => hd.l2 p (List.mem_of_mem_take hp))]; simp; omega
      refine WP.skip ?_
      refine PO.next ?_
      refine WP.seq ?_
      refine WP.block ?_
      refine WP.seq ?_
      refine WP.reg ?_
      refine WL.e e_move <| WL.e e_assign ?_
      refine WL.next ?_
      refine WP.seq ?_
      refine WP.reg ?_
      refine WL.e e_move <| WL.e e_move ?_
      refine WL.h (h_call (Read_spec i q hlt hq hq64) k80 ?_)
      intro a4 n4 c4
      refine WL.e e_move <| WL.e e_extract <| WL.e e_extract <| WL.e e_assign <| WL.e e_assign ?_
      refine WL.next ?_
      refine WP.reg ?_
      refine WL.e e_move <| WL.e e_move ?_
      refine WL.h (hl_append (xs := (d.seen.take i).flatten) (ys := q) sl81 eB_ok z5 sl_rl (by omega) (fun a6 n6 c6 => ?_))
      rw [show (d.seen.take i).flatten ++ q = (d.seen.take (i + 1)).flatten by rw [take_snoc hq]; simp]
      refine WL.e e_assign ?_
      refine WL.nil ?_
      refine PO.blockN ?_
      refine PO.next ?_
      refine WP.reg ?_
      refine WL.e (e_add rfl rfl (w_i64 (by omega) (by omega))) <| WL.e e_move ?_
      refine WL.nil ?_
      exact PO.againK (i + 1, .slice a6 n6 c6) (by simp only; omega) (by simp only; omega)
    · rw [List.take_of_length_le (show d.seen.length ≤ i by rw [decide_eq_false_iff_not] at h2; omega)]
      have hall : d.seen.flatten.length = d.sure.length * 64 := by rw [flat_seen hd.l2, hlen]
      refine WP.sh (u := u5) ?_
      rintro a5 n5 c5 rfl
      refine WP.exit ?_
      refine PO.past nofun ?_
      refine PO.round nofun ?_
      refine PO.blockX ?_
      refine PO.next ?_
      refine WP.seq ?_
      refine WP.reg ?_
      refine WL.e e_move <| WL.e (e_build z141 p141 (.o (.tmp 31) rfl <| .z (.int .i64 0) <| .n)) <| WL.e (e_build z143 p143 (.a2 (.tmp 32) rfl <| .n)) ?_
      refine WL.h (h_box fun b3 => ?_)
      refine WL.h' (h_store s73 ?_)
      refine WL.next ?_
      refine WP.seq ?_
      refine WP.seq ?_
      refine WP.reg ?_
      refine WL.e e_move ?_
      refine WL.h (h_call (found_spec (w := ⟨a5, n5, c5⟩)) k81 ?_)
      intro c1
      refine WL.next ?_
      refine WP.block ?_
      refine WP.nils 81 1 recC none ?_
      refine WP.conv (fun S h => RecsR_nil h) ?_
      refine WP.cls (A := OpJ b1 b3 b2 p []) (B := [cl b1 73 [.pointer (some ⟨b3, 0, none⟩)], cl b3 143 [.pointer (some ⟨p, 0, none⟩), .int .i64 (tot ([]))], cl b2 121 [.slice none 0 0], Sl 81 1 recC (.slice none 0 0) ([]), RecsR ([])]) (fun S h => ⟨⟨none, 0, 0⟩, h⟩) ?_
      refine WP.range (R := ?RR) (f := 105) (fs := []) (cs := [.pointer (some ⟨c1, 0, none⟩)]) (OpJ b1 b3 b2 p) (fun _ _ _ => pu True) (fun _ _ => True) (found_iter (A := Sl 5 1 eB (.slice a5 n5 c5) d.seen.flatten) (w := ⟨a5, n5, c5⟩) (b := d.seen.flatten) sl_rl (by omega)) k105 ?hLL ?_ ?_ ?_ (fun _ => rfl)
      case hLL => repeat first | exact .nil | exact Pick.z | apply Pick.s | apply Split.cons
      · rintro lb db fn tmps pre ⟨⟨a7, n7, c7⟩, r, m⟩ R2 hp hh
        have htl := tot_le hp
        rw [tot_snoc, List.length_append] at htl
        simp only [List.length_cons, List.length_nil] at htl
        refine WP.opn (B := fun sv : SV => [cl b1 73 [.pointer (some ⟨b3, 0, none⟩)], cl b3 143 [.pointer (some ⟨p, 0, none⟩), .int .i64 (tot (pre))], cl b2 121 [sv.v], Sl 81 1 recC (sv.v) (pre), RecsR (pre)]) (fun _ h => h) fun sv => ?_
        refine WP.seq ?_
        refine WP.reg ?_
        refine WL.e e_assign ?_
        refine WL.next ?_
        refine WP.reg ?_
        refine WL.e e_assign ?_
        refine WL.nil ?_
        refine PO.asg rfl (by repeat first | exact .z | apply Put.s) ?_
        refine WP.block ?_
        refine WP.seq ?_
        refine WP.reg ?_
        refine WL.e (e_load a121) <| WL.e e_move ?_
        refine WL.h (h_bs sl121 z81 (.o (.tmp 40) rfl <| .n) fun b4 => ?_)
        refine WL.h (hl_append (xs := pre) (ys := [((⟨a7, n7, c7⟩, r, m) : RecV)]) sl121 recCE z81 (lit_rl recCE [((⟨a7, n7, c7⟩, r, m) : RecV)] rfl) (by simp; omega) (fun a8 n8 c8 => ?_))
        refine WL.h' (h_store s121 ?_)
        refine WL.next ?_
        refine WP.reg ?_
        refine WL.e (e_load a73) <| WL.e e_nil <| WL.e (e_fa f143_0) <| WL.e (e_fa f141_1) <| WL.e (e_load a3) <| WL.e e_move <| WL.e (e_add (c := ((tot (pre ++ [((⟨a7, n7, c7⟩, r, m) : RecV)]) : Nat) : Int)) rfl rfl (by rw [tot_snoc]; simp only; rw [w_i64 (by omega) (by omega)]; omega)) <| WL.e e_nil <| WL.e (e_fa f143_0) <| WL.e (e_fa f141_1) ?_
        refine WL.h' (h_store s3 ?_)
        refine WL.nil ?_
        refine PO.blockN ?_
        refine PO.cls (B := [RecsR pre, recR (⟨a7, n7, c7⟩, r, m)]) RecsR_snoc ?_
        refine PO.cls (A := OpJ b1 b3 b2 p (pre ++ [((⟨a7, n7, c7⟩, r, m) : RecV)])) (B := [cl b1 73 [.pointer (some ⟨b3, 0, none⟩)], cl b3 143 [.pointer (some ⟨p, 0, none⟩), .int .i64 (tot (pre ++ [((⟨a7, n7, c7⟩, r, m) : RecV)]))], cl b2 121 [.slice a8 n8 c8], Sl 81 1 recC (.slice a8 n8 c8) (pre ++ [((⟨a7, n7, c7⟩, r, m) : RecV)]), RecsR (pre ++ [((⟨a7, n7, c7⟩, r, m) : RecV)])]) (fun S h => ⟨⟨a8, n8, c8⟩, h⟩) ?_
        exact PO.rnd trivial (by repeat first | exact .refl | exact Pick.z | apply Pick.s | apply Sub.cons | apply Sub.drop)
      · intro db xs hx hh
        have htl := tot_le (hx ▸ List.prefix_refl _ : xs.map (·.2) <+: recs d.seen.flatten)
        refine PO.opn (B := fun sv : SV => [cl b1 73 [.pointer (some ⟨b3, 0, none⟩)], cl b3 143 [.pointer (some ⟨p, 0, none⟩), .int .i64 (tot (xs))], cl b2 121 [sv.v], Sl 81 1 recC (sv.v) (xs), RecsR (xs)]) (fun _ h => h) fun sv => ?_
        refine PO.blockN ?_
        refine PO.next ?_
        refine WP.seq ?_
        refine WP.reg ?_
        refine WL.h (hl_make (enc := eB) (n := 64) (0 : UInt8) sl81 z5 (by omega) (fun a9 n9 c9 => ?_))
        refine WL.e e_assign ?_
        refine WL.next ?_
        refine WP.seq ?_
        refine WP.seq ?_
        refine WP.reg ?_
        refine WL.e (e_load a73) <| WL.e e_nil <| WL.e (e_fa f143_0) <| WL.e (e_fa f141_1) <| WL.e (e_load a3) <| WL.e e_assign ?_
        refine WL.next ?_
        refine WP.block ?_
        refine WP.loopK (fun (k : Nat) => [(12, .int .i64 (tot xs + k : Nat))]) (fun (k : Nat) => [cl b1 73 [.pointer (some ⟨b3, 0, none⟩)], cl b3 143 [.pointer (some ⟨p, 0, none⟩), .int .i64 (tot (xs))], cl b2 121 [sv.v], Sl 81 1 recC (sv.v) (xs), RecsR (xs)] ++ (Sl 5 1 eB (.slice a5 n5 c5) d.seen.flatten :: Sl 5 1 eB (.slice a9 n9 c9) (List.replicate 64 0) :: Dk p (cleanTo d.seen.flatten d (tot xs) k) :: pt db (.deferred (some [])) :: R)) [(0, _), (2, _), (3, _), (4, _), (5, _), (11, _)] (fun (k : Nat) => tot xs + k ≤ d.sure.length) (fun (k : Nat) => d.sure.length - k) 0 (by omega) ?_
        intro k hk
        obtain ⟨hok, hsu, hwt⟩ := cleanTo_ok d.seen.flatten d (tot xs) k hd
        refine WP.seq ?_
        refine WP.seq ?_
        refine WP.reg ?_
        refine WL.e e_move <| WL.e e_move ?_
        refine WL.h (h_call (Size_spec) k45 ?_)
        refine WL.e e_lss ?_
        refine WL.next ?_
        refine WP.cond rfl (fun h4 => ?_) (fun h4 => ?_)
        · have hlt : tot xs + k < d.sure.length := by rw [decide_eq_true_eq, hsu] at h4; omega
          refine WP.skip ?_
          refine PO.next ?_
          refine WP.seq ?_
          refine WP.block ?_
          refine WP.seq ?_
          refine WP.reg ?_
          refine WL.e e_move <| WL.e e_move <| WL.e (e_mul (c := (((tot xs + k) * 64 : Nat) : Int)) rfl rfl (by rw [w_i64 (by omega) (by omega)]; omega)) <| WL.e e_move <| WL.e (e_add (c := ((tot xs + k + 1 : Nat) : Int)) rfl rfl (by rw [w_i64 (by omega) (by omega)]; omega)) <| WL.e (e_mul (c := (((tot xs + k + 1) * 64 : Nat) : Int)) rfl rfl (by rw [w_i64 (by omega) (by omega)]; omega)) ?_
          refine WL.e (el_fromto (lo := (tot xs + k) * 64) (hi := (tot xs + k + 1) * 64) (xs := d.seen.flatten) sl81 sl_rl (by omega) (by omega)) <| WL.e e_move ?_
          refine WL.h (h_call (BEqual_spec (xs := (d.seen.flatten.drop ((tot xs + k) * 64)).take 64) (ys := List.replicate 64 0) (by have := RL.sub (lo := (tot xs + k) * 64) (hi := (tot xs + k + 1) * 64) (mx := none) eB_ok (sl_rl (E := 5) (z := 1) (enc := eB) (u := .slice a5 n5 c5) (xs := d.seen.flatten)) (by omega) (by omega) (by simp); rwa [show (tot xs + k + 1) * 64 - (tot xs + k) * 64 = 64 by omega] at this) sl_rl) k82 ?_)
          refine WL.e e_not ?_
          refine WL.next ?_
          refine WP.cond rfl (fun h5 => ?_) (fun h5 => ?_)
          · replace h5 : ¬ (d.seen.flatten.drop ((tot xs + k) * 64)).take 64 = List.replicate 64 0 := by simpa using h5
            refine WP.reg ?_
            refine WL.e e_move <| WL.e e_move <| WL.e e_move ?_
            refine WL.h (h_call (Write_spec (d := (cleanTo d.seen.flatten d (tot xs) k)) (b := List.replicate 64 0) (tot xs + k) sl_rl (by rw [hsu]; exact hlt) hok.len hok.le (by simp) (by omega)) k64 ?_)
            refine WL.nil ?_
            refine PO.blockN ?_
            refine PO.next ?_
            refine WP.reg ?_
            refine WL.e e_move <| WL.e (e_add (c := ((tot xs + (k + 1) : Nat) : Int)) rfl rfl (by rw [w_i64 (by omega) (by omega)]; omega)) <| WL.e e_assign ?_
            refine WL.nil ?_
            rw [show (cleanTo d.seen.flatten d (tot xs) k).write (tot xs + k) (List.replicate 64 0) = cleanTo d.seen.flatten d (tot xs) (k + 1) by rw [cleanTo, if_neg h5]]
            exact PO.againK (k + 1) (by omega) (by omega)
          · replace h5 : (d.seen.flatten.drop ((tot xs + k) * 64)).take 64 = List.replicate 64 0 := by simpa using h5
            refine WP.skip ?_
            refine PO.blockN ?_
            refine PO.next ?_
            refine WP.reg ?_
            refine WL.e e_move <| WL.e (e_add (c := ((tot xs + (k + 1) : Nat) : Int)) rfl rfl (by rw [w_i64 (by omega) (by omega)]; omega)) <| WL.e e_assign ?_
            refine WL.nil ?_
            rw [show (cleanTo d.seen.flatten d (tot xs) k) = cleanTo d.seen.flatten d (tot xs) (k + 1) by rw [cleanTo, if_pos h5]]
            exact PO.againK (k + 1) (by omega) (by omega)
        · obtain rfl : k = d.sure.length - tot xs := by rw [decide_eq_false_iff_not, hsu] at h4; omega
          refine WP.exit ?_
          refine PO.past nofun ?_
          refine PO.round nofun ?_
          refine PO.blockX ?_
          refine PO.next ?_
          refine WP.seq ?_
          refine WP.draws mixedOk 7 ?_
          refine RW.e 0 rfl (e_load a73) <| RW.e 1 rfl (e_load a121) <| RW.e 2 rfl e_move ?_
          refine RW.any (is := [3]) rfl ⟨?_, trivial⟩
          refine RWat.h rfl rfl rfl ?_
          refine (h_call (Sync_spec hok.pos hok.len) k65 ?_)
          refine ⟨⟨⟨_, rfl, .inl ⟨rfl, (e_load a121)⟩⟩, ⟨_, rfl, .inl ⟨rfl, (e_load a73)⟩⟩, trivial⟩, ?_⟩
          refine RW.any (is := [4]) rfl ⟨?_, trivial⟩
          refine RWat.h' rfl rfl rfl ?_
          refine (h_store s73 ?_)
          refine ⟨⟨⟨_, rfl, .inl ⟨rfl, (e_load a121)⟩⟩, trivial⟩, ?_⟩
          refine RW.any (is := [5]) rfl ⟨?_, trivial⟩
          refine RWat.h' rfl rfl rfl ?_
          refine (h_store s121 ?_)
          refine ⟨trivial, ?_⟩
          refine RW.e 6 rfl e_assign ?_
          refine RW.done ?_
          refine PO.next ?_
          refine WP.ret ?_
          exact PO.finM (by repeat first | exact .z | apply Put.s) Tryz.results47 (rv_cell a73 (rv_cell a121 (rv_tmp rv_nil))) (hK b3 sv xs hx)
      · exact fun _ _ _ _ _ _ hc => absurd trivial hc

end Go.SL

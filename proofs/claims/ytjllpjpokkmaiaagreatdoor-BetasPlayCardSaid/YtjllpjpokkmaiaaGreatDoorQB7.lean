import Derived.Test.YtjllpjpokkmaiaaGreatDoorQB6
set_option linter.unusedSimpArgs false
set_option linter.unusedVariables false
namespace Go.SL.Fc
open Go Go.Proofs Go.SL
theorem a25:aggOf Tryz.prog 25=some none:=by kernel_rfl
theorem a3:aggOf Tryz.prog 3=some none:=by kernel_rfl
theorem a81:aggOf Tryz.prog 81=some none:=by kernel_rfl
theorem a82:aggOf Tryz.prog 82=some none:=by kernel_rfl
theorem f145_0:fldOf Tryz.prog 145 0=some 0:=by kernel_rfl
theorem f145_1:fldOf Tryz.prog 145 1=some 1:=by kernel_rfl
theorem f147_0:fldOf Tryz.prog 147 0=some 0:=by kernel_rfl
theorem k106:callable Tryz.prog 106=true:=by kernel_rfl
theorem k107:callable Tryz.prog 107=true:=by kernel_rfl
theorem k108:callable Tryz.prog 108=true:=by kernel_rfl
theorem k109:callable Tryz.prog 109=true:=by kernel_rfl
theorem k110:callable Tryz.prog 110=true:=by kernel_rfl
theorem k129:callable Tryz.prog 129=true:=by kernel_rfl
theorem k131:callable Tryz.prog 131=true:=by kernel_rfl
theorem k175:callable Tryz.prog 175=true:=by kernel_rfl
theorem k176:callable Tryz.prog 176=true:=by kernel_rfl
theorem p145:placesOf Tryz.prog 145=some [(0,1),(1,1)]:=by kernel_rfl
theorem p147:placesOf Tryz.prog 147=some [(0,2)]:=by kernel_rfl
theorem pt81:isPtr Tryz.prog 81=true:=by kernel_rfl
theorem s3:szOf Tryz.prog 3=some 1:=by kernel_rfl
theorem s81:szOf Tryz.prog 81=some 1:=by kernel_rfl
theorem s82:szOf Tryz.prog 82=some 1:=by kernel_rfl
theorem sl82:slOf Tryz.prog 82=some (90,1,24):=by kernel_rfl
theorem z145:zeroOf Tryz.prog 145=some [.pointer none,.int .i64 0]:=by kernel_rfl
theorem z147:zeroOf Tryz.prog 147=some [.pointer none,.int .i64 0]:=by kernel_rfl
theorem z81:zeroOf Tryz.prog 81=some [.pointer none]:=by kernel_rfl
theorem z82:zeroOf Tryz.prog 82=some [.slice none 0 0]:=by kernel_rfl
end Go.SL.Fc
namespace Go.SL
open Go Go.Proofs Fc
theorem there_spec {g:World} {l p i:Nat}:Spec Tryz.prog g 129 [.pointer (some ⟨l,0,none⟩)] [cl l 147 [.pointer (some ⟨p,0,none⟩),.int .i64 i]] fun K R=>K (.bool true) (cl l 147 [.pointer (some ⟨p,0,none⟩),.int .i64 i]::R):=by
 refine Spec.intro Tryz.func129 rfl Tryz.ntmps129 rfl fun R K hK=>?_
 refine WP.seq<|WP.reg<|WL.e e_assign<|WL.next<|WP.seq<|WP.reg<|WL.e e_move<|WL.e (e_pne pt81)<|WL.e e_move ?_
 refine WL.bool 5 rfl (fun h=>?_) (fun h=>?_)
 ·skip
  refine WL.e e_move<|WL.e e_nil<|WL.e (e_fa f147_0)<|WL.e (e_fa f145_0)<|WL.e (e_load a25)<|WL.e (e_pne pt25)<|WL.e e_pick_t<|WL.e e_assign<|WL.next<|WP.ret ?_
  exact PO.fin Tryz.results129 (rv_tmp rv_nil) hK
 ·cases h 
theorem left_spec {g:World} {l p i:Nat} {d:DiskM} (hi:i≤d.sure.length) (hl:d.sure.length≤4096):Spec Tryz.prog g 131 [.pointer (some ⟨l,0,none⟩)] [cl l 147 [.pointer (some ⟨p,0,none⟩),.int .i64 i],Dk p d] fun K R=>K (.int .i64 (d.sure.length - i:Nat)) (cl l 147 [.pointer (some ⟨p,0,none⟩),.int .i64 i]::Dk p d::R):=by
 refine Spec.intro Tryz.func131 rfl Tryz.ntmps131 rfl fun R K hK=>?_
 refine WP.seq<|WP.reg<|WL.e e_assign<|WL.next<|WP.seq<|WP.draws mixedOk 11<|RW.e 0 rfl e_move<|RW.e 1 rfl e_nil<|RW.e 2 rfl (e_fa f145_0)<|RW.e 3 rfl (e_load a25)<|RW.e 5 rfl e_move<|RW.e 6 rfl e_nil<|RW.e 7 rfl (e_fa f145_1)<|RW.e 8 rfl (e_load a3) ?_
 refine RW.any (is:=[4]) rfl ⟨?_,trivial⟩
 refine RWat.h rfl rfl rfl ?_
 refine (h_call (Size_spec) k52 ?_)
 refine ⟨⟨⟨_,rfl,.inl ⟨rfl,(e_load a3)⟩⟩,⟨_,rfl,.inl ⟨rfl,(e_fa f145_1)⟩⟩,⟨_,rfl,.inl ⟨rfl,e_nil⟩⟩,⟨_,rfl,.inl ⟨rfl,e_move⟩⟩,trivial⟩,?_⟩
 refine RW.e 9 rfl (e_sub (c:=((d.sure.length - i:Nat):Int)) rfl rfl (by rw [w_i64 (by omega) (by omega)];omega))<|RW.e 10 rfl e_assign<|RW.done<|PO.next<|WP.ret ?_
 exact PO.fin Tryz.results131 (rv_tmp rv_nil) hK
theorem Force_spec {g:World} {l p i:Nat} {d:DiskM} (hd:d.ok):Spec Tryz.prog g 48 [.pointer (some ⟨l,0,none⟩)] [cl l 147 [.pointer (some ⟨p,0,none⟩),.int .i64 i],Dk p d] fun K R=>K (.int .i64 0) (cl l 147 [.pointer (some ⟨p,0,none⟩),.int .i64 i]::Dk p d.sync::R):=by
 refine Spec.intro Tryz.func48 rfl Tryz.ntmps48 rfl fun R K hK=>?_
 refine WP.seq<|WP.reg<|WL.e e_assign<|WL.next<|WP.seq<|WP.seq<|WP.reg<|WL.e e_move ?_
 refine WL.h (h_call (there_spec) k129 ?_)
 refine WL.e e_not<|WL.next<|WP.cond_f rfl<|WP.skip<|PO.next<|WP.seq<|WP.reg<|WL.e e_move<|WL.e e_nil<|WL.e (e_fa f147_0)<|WL.e (e_fa f145_0)<|WL.e (e_load a25) ?_
 refine WL.h (h_call (Sync_spec hd.pos hd.len) k110 ?_)
 refine WL.e e_assign<|WL.next<|WP.ret ?_
 exact PO.fin Tryz.results48 (rv_tmp rv_nil) hK
theorem Add_spec {g:World} {A:HP} {l p i:Nat} {d:DiskM} {u:Value} {b:List UInt8} (hA:RL A 1 eB u b) (hd:d.ok) (hi:i≤d.sure.length) (hw:d.waits.length < 4000000000) :
  Spec Tryz.prog g 47 [.pointer (some ⟨l,0,none⟩),u] [cl l 147 [.pointer (some ⟨p,0,none⟩),.int .i64 i],Dk p d,A] fun K R=>(16384 < b.length→K (.int .i64 3) (cl l 147 [.pointer (some ⟨p,0,none⟩),.int .i64 i]::Dk p d::A::R))∧(b.length≤16384→d.sure.length < i+secs b.length→K (.int .i64 5) (cl l 147 [.pointer (some ⟨p,0,none⟩),.int .i64 i]::Dk p d::A::R)) ∧
   (b.length≤16384→i+secs b.length≤d.sure.length→K (.int .i64 0) (cl l 147 [.pointer (some ⟨p,0,none⟩),.int .i64 (i+secs b.length:Nat)]::Dk p (addW d i (frame b) (secs b.length))::A::R)):=by
 refine Spec.intro Tryz.func47 rfl Tryz.ntmps47 rfl fun R K hK=>?_
 refine WP.seq<|WP.reg<|WL.e e_assign<|WL.next<|WP.seq<|WP.seq<|WP.reg<|WL.e e_move ?_
 refine WL.h (h_call (there_spec) k129 ?_)
 refine WL.e e_not<|WL.next<|WP.cond_f rfl<|WP.skip<|PO.next<|WP.seq<|WP.reg<|WL.e e_move ?_
 refine WL.h (h_call (Put_spec hA) k130 ?_)
 refine ⟨fun h1=>?_,fun h1 a1 n1 c1=>?_⟩
 ·skip
  refine WL.e e_move<|WL.e e_extract<|WL.e e_extract<|WL.e e_assign<|WL.e e_assign<|WL.next<|WP.seq<|WP.block<|WP.seq<|WP.reg<|WL.e e_move<|WL.e e_neq<|WL.e e_assign<|WL.next<|WP.cond_t rfl<|WP.seq<|WP.reg<|WL.e e_move<|WL.e e_assign<|WL.next<|WP.ret<|PO.blockR<|PO.past nofun ?_
  exact PO.fin Tryz.results47 (rv_tmp rv_nil) (hK.1 h1)
 ·have hdl:=hd.le
  have hs1:=secs_le b.length
  have hs2:=secs_ub b.length
  refine WL.e e_move<|WL.e e_extract<|WL.e e_extract<|WL.e e_assign<|WL.e e_assign<|WL.next<|WP.seq<|WP.block<|WP.seq<|WP.reg<|WL.e e_move<|WL.e e_neq<|WL.e e_assign<|WL.next<|WP.cond_f rfl<|WP.seq<|WP.reg<|WL.e e_move<|WL.e (el_len (xs:=frame b) sl90 sl_rl)<|WL.e e_move<|WL.e e_nil<|WL.e (e_fa f147_0) ?_
  refine WL.h (h_call (left_spec (d:=d) hi hd.le) k131 ?_)
  refine WL.e (e_mul (c:=(((d.sure.length - i) * 64:Nat):Int)) rfl rfl (by rw [w_i64 (by omega) (by omega)];omega))<|WL.e e_gtr<|WL.e e_assign<|WL.next ?_
  refine WP.cond rfl (fun h2=>?_) (fun h2=>?_)
  ·replace h2:d.sure.length < i+secs b.length:=by rw [decide_eq_true_eq,frame_len] at h2;omega
   refine WP.seq<|WP.reg<|WL.e e_assign<|WL.next<|WP.ret<|PO.blockR<|PO.past nofun ?_
   exact PO.fin Tryz.results47 (rv_tmp rv_nil) (hK.2.1 h1 h2)
  ·replace h2:i+secs b.length≤d.sure.length:=by rw [decide_eq_false_iff_not,frame_len] at h2;omega
   refine WP.skip<|PO.blockN<|PO.next<|WP.seq<|WP.block<|WP.loopK (fun (x:Value × List UInt8 × Nat × Nat × DiskM)=>[(5,x.1)]) (fun (x:Value × List UInt8 × Nat × Nat × DiskM)=>cl l 147 [.pointer (some ⟨p,0,none⟩),.int .i64 x.2.2.2.1]::Dk p x.2.2.2.2::Sl 5 1 eB (.slice a1 n1 c1) (frame b)::A::R) [(0,_),(4,_)] (fun (x:Value × List UInt8 × Nat × Nat × DiskM)=>RL (Sl 5 1 eB (.slice a1 n1 c1) (frame b)) 1 eB x.1 x.2.1∧x.2.1.length=x.2.2.1 * 64∧addW x.2.2.2.2 x.2.2.2.1 x.2.1 x.2.2.1=addW d i (frame b) (secs b.length)∧x.2.2.2.1+x.2.2.1=i+secs b.length∧x.2.2.2.2.ok∧x.2.2.2.2.sure=d.sure∧x.2.2.2.2.waits.length+x.2.2.1=d.waits.length+secs b.length) (fun (x:Value × List UInt8 × Nat × Nat × DiskM)=>x.2.2.1) (.slice a1 n1 c1,frame b,secs b.length,i,d) (⟨sl_rl,frame_len b,rfl,rfl,hd,rfl,rfl⟩) ?_
   rintro ⟨w,bs,k,j,e⟩ ⟨hr,hl,he,hj,hok,hsu,hwt⟩
   simp only at hr hl he hj hok hsu hwt
   dsimp only
   refine WP.seq<|WP.seq<|WP.reg<|WL.e e_move<|WL.e (el_len sl90 hr)<|WL.e e_gtr<|WL.next ?_
   refine WP.cond rfl (fun h3=>?_) (fun h3=>?_)
   ·obtain ⟨m,rfl⟩:∃ m,k=m+1:=⟨k - 1,by rw [decide_eq_true_eq] at h3;omega⟩
    refine WP.skip<|PO.next<|WP.seq<|WP.block<|WP.seq<|WP.draws mixedOk 13<|RW.e 0 rfl e_move<|RW.e 1 rfl e_nil<|RW.e 2 rfl (e_fa f147_0)<|RW.e 3 rfl (e_fa f145_0)<|RW.e 4 rfl (e_load a25)<|RW.e 5 rfl e_move<|RW.e 6 rfl e_nil<|RW.e 7 rfl (e_fa f147_0)<|RW.e 8 rfl (e_fa f145_1)<|RW.e 9 rfl (e_load a3)<|RW.e 10 rfl e_move<|RW.e 11 rfl (el_to (hi:=64) sl90 hr (by omega)) ?_
    refine RW.any (is:=[12]) rfl ⟨?_,trivial⟩
    refine RWat.h rfl rfl rfl ?_
    refine (h_call (Write_spec (d:=e) (b:=bs.take 64) j (RL.to_ (hi:=64) eB_ok hr (by omega)) (by rw [hsu];omega) hok.len hok.le (by simp;omega) (by omega)) k109 ?_)
    refine ⟨trivial,?_⟩
    refine RW.done<|PO.next<|WP.reg<|WL.e e_move<|WL.e e_nil<|WL.e (e_fa f147_0)<|WL.e (e_fa f145_1)<|WL.e (e_load a3)<|WL.e (e_add (c:=((j+1:Nat):Int)) rfl rfl (by rw [w_i64 (by omega) (by omega)];omega))<|WL.e e_nil<|WL.e (e_fa f147_0)<|WL.e (e_fa f145_1) ?_
    refine WL.h' (h_store s3 ?_)
    refine WL.nil<|PO.blockN<|PO.next<|WP.reg<|WL.e e_move<|WL.e (el_from (lo:=64) sl90 hr (by omega))<|WL.e e_assign<|WL.nil ?_
    exact PO.againK (subV w 64 bs.length none 1,bs.drop 64,m,j+1,e.write j (bs.take 64)) ⟨RL.from_ eB_ok hr (by omega),by simp;omega,he,by simp only;omega,hok.write _ _,hsu,by simp [DiskM.write];omega⟩ (by simp only;omega)
   ·obtain rfl:k=0:=by rw [decide_eq_false_iff_not] at h3;omega
    obtain rfl:j=i+secs b.length:=by omega
    simp only [addW] at he
    subst he
    refine WP.exit<|PO.past nofun<|PO.round nofun<|PO.blockX<|PO.next<|WP.seq<|WP.reg<|WL.e e_assign<|WL.next<|WP.ret ?_
    exact PO.fin Tryz.results47 (rv_tmp rv_nil) (hK.2.2 h1 h2)
abbrev RecV:=SV × List UInt8 × Nat
def recE (x:RecV):List Value:=[x.1.v,.int .i64 x.2.2]
def recR (x:RecV):HP:=Sl 5 1 eB x.1.v x.2.1
theorem found_iter {g:World} {A:HP} {c1:Nat} {w:SV} {b:List UInt8} (hA:RL A 1 eB w.v b) (hb:b.length≤68719476736) :
  Iter Tryz.prog g 175 (fun y=>[]++[y]++[.pointer (some ⟨c1,0,none⟩)]) [cl c1 90 [w.v],A] recE recR (fun xs=>xs.map (·.2)=recs b) (fun pre=>pre.map (·.2) <+: recs b) [A]:=by
 intro y J X cont hy
 refine Spec.intro Tryz.func175 rfl Tryz.ntmps175 rfl fun R K hK=>?_
 refine WP.block<|WP.loopK (fun (x:SV × List UInt8 × List RecV)=>[]) (fun (x:SV × List UInt8 × List RecV)=>J x.2.2::cl c1 90 [x.1.v]::A::R) [(0,_),(1,_)] (fun (x:SV × List UInt8 × List RecV)=>RL A 1 eB x.1.v x.2.1∧x.2.1.length≤b.length∧x.2.2.map (·.2)++recs x.2.1=recs b∧Hist cont x.2.2) (fun (x:SV × List UInt8 × List RecV)=>x.2.1.length) (w,b,[]) (⟨hA,Nat.le_refl _,rfl,Hist.nil⟩) ?_
 rintro ⟨w1,b1,pre⟩ ⟨hr,hl,he,hh⟩
 simp only at hr hl he hh
 dsimp only
 refine WP.block<|WP.seq<|WP.reg<|WL.e (e_load a90) ?_
 refine WL.h (h_call (Get_spec hr (by omega)) k176 ?_)
 refine ⟨fun hg=>?_,fun r m hg a2 n2 c2=>?_⟩
 ·skip
  refine WL.e e_move<|WL.e e_extract<|WL.e e_extract<|WL.e e_extract<|WL.e e_assign<|WL.e e_assign<|WL.e e_assign<|WL.next<|WP.seq<|WP.seq<|WP.reg<|WL.e e_move<|WL.e e_neq<|WL.e e_move ?_
  refine WL.bool 14 rfl (fun h=>?_) (fun h=>?_)
  ·skip
   refine WL.skip<|WL.skip<|WL.skip<|WL.skip<|WL.skip<|WL.e e_pick_t<|WL.next<|WP.cond_t rfl<|WP.ret<|PO.past nofun<|PO.blockR<|PO.round nofun<|PO.blockR ?_
   exact PO.fin Tryz.results175 rv_nil (hK.1 pre (by rw [← he,recs_none hg];simp) hh)
  ·simp at h 
 ·have hm:=getF_some hg
  have hpf:(pre++[((⟨a2,n2,c2⟩,r,m):RecV)]).map (·.2) <+: recs b:=by rw [← he,recs_some hg];simp
  refine WL.e e_move<|WL.e e_extract<|WL.e e_extract<|WL.e e_extract<|WL.e e_assign<|WL.e e_assign<|WL.e e_assign<|WL.next<|WP.seq<|WP.seq<|WP.reg<|WL.e e_move<|WL.e e_neq<|WL.e e_move ?_
  refine WL.bool 14 rfl (fun h=>?_) (fun h=>?_)
  ·simp at h 
  ·skip
   refine WL.e e_move<|WL.e e_move<|WL.e e_move ?_
   refine WL.h (h_cally (hy pre (⟨a2,n2,c2⟩,r,m) hpf hh) ?_)
   refine ⟨fun hc=>?_,fun hc=>?_⟩
   ·skip
    refine WL.e e_not<|WL.e e_pick_f<|WL.next<|WP.cond_f rfl<|WP.skip<|PO.next<|WP.reg<|WL.e (e_load a90)<|WL.e e_move<|WL.e (e_mul (c:=((m * 64:Nat):Int)) rfl rfl (by rw [w_i64 (by omega) (by omega)];omega))<|WL.e (el_from (lo:=m * 64) sl90 hr hm.2.1) ?_
    refine WL.h' (h_store s90 ?_)
    refine WL.nil<|PO.blockN ?_
    exact PO.againK (subS w1 (m * 64) b1.length 1,b1.drop (m * 64),pre++[(⟨a2,n2,c2⟩,r,m)]) ⟨by rw [subS_eq];exact RL.from_ eB_ok hr hm.2.1,by simp;omega,by rw [← he,recs_some hg];simp,hh.snoc hc⟩ (by simp;omega)
   ·skip
    refine WL.e e_not<|WL.e e_pick_f<|WL.next<|WP.cond_t rfl<|WP.ret<|PO.past nofun<|PO.blockR<|PO.round nofun<|PO.blockR ?_
    exact PO.fin Tryz.results175 rv_nil (hK.2 pre (⟨a2,n2,c2⟩,r,m) hpf hh hc)
theorem found_spec {g:World} {w:SV}:Spec Tryz.prog g 107 [w.v] [] fun K R=>∀ c1,K (.func (.func 175) #[] #[.pointer (some ⟨c1,0,none⟩)]) (cl c1 90 [w.v]::R):=by
 refine Spec.intro Tryz.func107 rfl Tryz.ntmps107 rfl fun R K hK=>?_
 refine WP.seq<|WP.reg ?_
 refine WL.h (h_box fun b1=>?_)
 refine WL.e e_assign<|WL.next<|WP.seq<|WP.reg<|WL.e e_makeFunc<|WL.e e_assign<|WL.next<|WP.ret ?_
 exact PO.fin Tryz.results107 (rv_tmp rv_nil) (hK b1)
def recC (x:RecV):List Value:=[x.1.v]
theorem recCE:EncOk 1 recC:=⟨fun _=>rfl,fun _=>rfl⟩
def RecsR (l:List RecV):HP:=bun (l.map recR)
theorem RecsR_snoc {l:List RecV} {x:RecV}:∀ S,stars [RecsR l,recR x] S→RecsR (l++[x]) S:=fun S h=>by
 have:=stars_bun h
 unfold RecsR bun
 rwa [List.map_append]
theorem RecsR_nil {L:List HP} {S:Piece} (h:stars L S):stars (RecsR []::L) S:=bun_stars (L:=[]) h
def tot (l:List RecV):Nat:=(l.map (·.2.2)).sum
def OpJ (b2 bl b3 p:Nat) (pre:List RecV):HP:=fun S=>∃ sv:SV,stars [cl b2 81 [.pointer (some ⟨bl,0,none⟩)],cl bl 147 [.pointer (some ⟨p,0,none⟩),.int .i64 (tot pre)],cl b3 82 [sv.v],Sl 90 1 recC sv.v pre,RecsR pre] S
theorem tot_le {all:List UInt8} {pre:List RecV} (h:pre.map (·.2) <+: recs all):tot pre * 64≤all.length∧pre.length * 64≤all.length:=by
 obtain ⟨t,ht⟩:=h
 have h1:=recs_le _ all (Nat.le_refl _)
 rw [← ht] at h1
 simp only [List.map_append,List.sum_append,List.length_append,List.length_map,List.map_map] at h1
 have e:(pre.map ((fun x=>x.2)∘fun x=>x.2)).sum=tot pre:=rfl
 rw [e] at h1
 omega
theorem tot_snoc (pre:List RecV) (x:RecV):tot (pre++[x])=tot pre+x.2.2:=by simp [tot]
theorem Open_spec {g:World} {p:Nat} {d:DiskM} (hd:d.ok) (hw:d.waits.length < 4000000000):Spec Tryz.prog g 33 [.pointer (some ⟨p,0,none⟩)] [Dk p d] fun K R=>∀ (l:Nat) (sv:SV) (xs:List RecV),xs.map (·.2)=recs d.seen.flatten→K (.tuple #[.pointer (some ⟨l,0,none⟩),sv.v,.int .i64 0]) (cl l 147 [.pointer (some ⟨p,0,none⟩),.int .i64 (tot xs)]::Sl 90 1 recC sv.v xs::RecsR xs::Dk p (cleanTo d.seen.flatten d (tot xs) (d.sure.length - tot xs)).sync::R):=by
 refine Spec.intro Tryz.func33 rfl Tryz.ntmps33 rfl fun R K hK=>?_
 refine WP.seq<|WP.reg ?_
 refine WL.h (h_alloc z81 fun b1=>?_)
 refine WL.h (h_alloc z82 fun b2=>?_)
 refine WL.e e_assign<|WL.next<|WP.seq<|WP.seq<|WP.reg<|WL.e e_move ?_
 refine WL.h (h_call (Size_spec) k52 ?_)
 refine WL.e e_eql<|WL.next ?_
 refine WP.cond rfl (fun h=>?_) (fun h=>?_)
 ·rw [beq_iff_eq] at h;have:=hd.pos;omega
 ·have hle:=hd.le
  have hlen:=hd.len
  refine WP.skip<|PO.next<|WP.seq<|WP.reg<|WL.e e_assign<|WL.next<|WP.seq<|WP.seq<|WP.reg<|WL.e e_move ?_
  refine WL.h (h_call (Size_spec) k52 ?_)
  refine WL.e e_move<|WL.next<|WP.block<|WP.nils 5 1 eB none ?_
  refine WP.loopK (fun (x:Nat × Value)=>[(18,.int .i64 x.1),(5,x.2)]) (fun (x:Nat × Value)=>Sl 5 1 eB x.2 (d.seen.take x.1).flatten::cl b1 81 [.pointer none]::cl b2 82 [.slice none 0 0]::Dk p d::R) [(0,_),(2,_),(3,_),(4,_),(17,_)] (fun (x:Nat × Value)=>x.1≤d.sure.length) (fun (x:Nat × Value)=>d.sure.length - x.1) (0,.slice none 0 0) (Nat.zero_le _) ?_
  rintro ⟨i,u5⟩ hx1
  simp only at hx1
  dsimp only
  refine WP.seq<|WP.reg<|WL.e e_lss<|WL.next<|WP.seq ?_
  refine WP.cond rfl (fun h2=>?_) (fun h2=>?_)
  ·have hlt:i < d.sure.length:=by rw [decide_eq_true_eq] at h2;omega
   obtain ⟨q,hq⟩:∃ q,d.seen[i]?=some q:=⟨_,List.getElem?_eq_getElem (by omega)⟩
   have hq64:=hd.l2 q (List.mem_of_getElem? hq)
   have hfl:(d.seen.take i).flatten.length=i * 64:=by rw [flat_seen (fun p hp=>hd.l2 p (List.mem_of_mem_take hp))];simp;omega
   refine WP.skip<|PO.next<|WP.seq<|WP.block<|WP.seq<|WP.reg<|WL.e e_move<|WL.e e_assign<|WL.next<|WP.seq<|WP.reg<|WL.e e_move<|WL.e e_move ?_
   refine WL.h (h_call (Read_spec i q hlt hq hq64) k106 ?_)
   intro a4 n4 c4
   refine WL.e e_move<|WL.e e_extract<|WL.e e_extract<|WL.e e_assign<|WL.e e_assign<|WL.next<|WP.reg<|WL.e e_move<|WL.e e_move ?_
   refine WL.h (hl_append (xs:=(d.seen.take i).flatten) (ys:=q) sl90 eB_ok z5 sl_rl (by omega) (fun a6 n6 c6=>?_))
   rw [show (d.seen.take i).flatten++q=(d.seen.take (i+1)).flatten by rw [take_snoc hq];simp]
   refine WL.e e_assign<|WL.nil<|PO.blockN<|PO.next<|WP.reg<|WL.e (e_add rfl rfl (w_i64 (by omega) (by omega)))<|WL.e e_move<|WL.nil ?_
   exact PO.againK (i+1,.slice a6 n6 c6) (by simp only;omega) (by simp only;omega)
  ·rw [List.take_of_length_le (show d.seen.length≤i by rw [decide_eq_false_iff_not] at h2;omega)]
   have hall:d.seen.flatten.length=d.sure.length * 64:=by rw [flat_seen hd.l2,hlen]
   refine WP.sh (u:=u5) ?_
   rintro a5 n5 c5 rfl
   refine WP.exit<|PO.past nofun<|PO.round nofun<|PO.blockX<|PO.next<|WP.seq<|WP.reg<|WL.e e_move<|WL.e (e_build z145 p145 (.o (.tmp 31) rfl<|.z (.int .i64 0)<|.n))<|WL.e (e_build z147 p147 (.a2 (.tmp 32) rfl<|.n)) ?_
   refine WL.h (h_box fun b3=>?_)
   refine WL.h' (h_store s81 ?_)
   refine WL.next<|WP.seq<|WP.seq<|WP.reg<|WL.e e_move ?_
   refine WL.h (h_call (found_spec (w:=⟨a5,n5,c5⟩)) k107 ?_)
   intro c1
   refine WL.next<|WP.block<|WP.nils 90 1 recC none ?_
   refine WP.conv (fun S h=>RecsR_nil h) ?_
   refine WP.cls (A:=OpJ b1 b3 b2 p []) (B:=[cl b1 81 [.pointer (some ⟨b3,0,none⟩)],cl b3 147 [.pointer (some ⟨p,0,none⟩),.int .i64 (tot ([]))],cl b2 82 [.slice none 0 0],Sl 90 1 recC (.slice none 0 0) ([]),RecsR ([])]) (fun S h=>⟨⟨none,0,0⟩,h⟩) ?_
   refine WP.range (R:=?RR) (f:=175) (fs:=[]) (cs:=[.pointer (some ⟨c1,0,none⟩)]) (OpJ b1 b3 b2 p) (fun _ _ _=>pu True) (fun _ _=>True) (found_iter (A:=Sl 5 1 eB (.slice a5 n5 c5) d.seen.flatten) (w:=⟨a5,n5,c5⟩) (b:=d.seen.flatten) sl_rl (by omega)) k175 ?hLL ?_ ?_ ?_ (fun _=>rfl)
   case hLL=>repeat first | exact .nil | exact Pick.z | apply Pick.s | apply Split.cons
   ·rintro lb db fn tmps pre ⟨⟨a7,n7,c7⟩,r,m⟩ R2 hp hh
    have htl:=tot_le hp
    rw [tot_snoc,List.length_append] at htl
    simp only [List.length_cons,List.length_nil] at htl
    refine WP.opn (B:=fun sv:SV=>[cl b1 81 [.pointer (some ⟨b3,0,none⟩)],cl b3 147 [.pointer (some ⟨p,0,none⟩),.int .i64 (tot (pre))],cl b2 82 [sv.v],Sl 90 1 recC (sv.v) (pre),RecsR (pre)]) (fun _ h=>h) fun sv=>?_
    refine WP.seq<|WP.reg<|WL.e e_assign<|WL.next<|WP.reg<|WL.e e_assign<|WL.nil<|PO.asg rfl (by repeat first | exact .z | apply Put.s)<|WP.block<|WP.seq<|WP.reg<|WL.e (e_load a82)<|WL.e e_move ?_
    refine WL.h (h_bs sl82 z90 (.o (.tmp 40) rfl<|.n) fun b4=>?_)
    refine WL.h (hl_append (xs:=pre) (ys:=[((⟨a7,n7,c7⟩,r,m):RecV)]) sl82 recCE z90 (lit_rl recCE [((⟨a7,n7,c7⟩,r,m):RecV)] rfl) (by simp;omega) (fun a8 n8 c8=>?_))
    refine WL.h' (h_store s82 ?_)
    refine WL.next<|WP.reg<|WL.e (e_load a81)<|WL.e e_nil<|WL.e (e_fa f147_0)<|WL.e (e_fa f145_1)<|WL.e (e_load a3)<|WL.e e_move<|WL.e (e_add (c:=((tot (pre++[((⟨a7,n7,c7⟩,r,m):RecV)]):Nat):Int)) rfl rfl (by rw [tot_snoc];simp only;rw [w_i64 (by omega) (by omega)];omega))<|WL.e e_nil<|WL.e (e_fa f147_0)<|WL.e (e_fa f145_1) ?_
    refine WL.h' (h_store s3 ?_)
    refine WL.nil<|PO.blockN<|PO.cls (B:=[RecsR pre,recR (⟨a7,n7,c7⟩,r,m)]) RecsR_snoc ?_
    refine PO.cls (A:=OpJ b1 b3 b2 p (pre++[((⟨a7,n7,c7⟩,r,m):RecV)])) (B:=[cl b1 81 [.pointer (some ⟨b3,0,none⟩)],cl b3 147 [.pointer (some ⟨p,0,none⟩),.int .i64 (tot (pre++[((⟨a7,n7,c7⟩,r,m):RecV)]))],cl b2 82 [.slice a8 n8 c8],Sl 90 1 recC (.slice a8 n8 c8) (pre++[((⟨a7,n7,c7⟩,r,m):RecV)]),RecsR (pre++[((⟨a7,n7,c7⟩,r,m):RecV)])]) (fun S h=>⟨⟨a8,n8,c8⟩,h⟩) ?_
    exact PO.rnd trivial (by repeat first | exact .refl | exact Pick.z | apply Pick.s | apply Sub.cons | apply Sub.drop)
   ·intro db xs hx hh
    have htl:=tot_le (hx ▸ List.prefix_refl _:xs.map (·.2) <+: recs d.seen.flatten)
    refine PO.opn (B:=fun sv:SV=>[cl b1 81 [.pointer (some ⟨b3,0,none⟩)],cl b3 147 [.pointer (some ⟨p,0,none⟩),.int .i64 (tot (xs))],cl b2 82 [sv.v],Sl 90 1 recC (sv.v) (xs),RecsR (xs)]) (fun _ h=>h) fun sv=>?_
    refine PO.blockN<|PO.next<|WP.seq<|WP.reg ?_
    refine WL.h (hl_make (enc:=eB) (n:=64) (0:UInt8) sl90 z5 (by omega) (fun a9 n9 c9=>?_))
    refine WL.e e_assign<|WL.next<|WP.seq<|WP.seq<|WP.reg<|WL.e (e_load a81)<|WL.e e_nil<|WL.e (e_fa f147_0)<|WL.e (e_fa f145_1)<|WL.e (e_load a3)<|WL.e e_assign<|WL.next<|WP.block<|WP.loopK (fun (k:Nat)=>[(12,.int .i64 (tot xs+k:Nat))]) (fun (k:Nat)=>[cl b1 81 [.pointer (some ⟨b3,0,none⟩)],cl b3 147 [.pointer (some ⟨p,0,none⟩),.int .i64 (tot (xs))],cl b2 82 [sv.v],Sl 90 1 recC (sv.v) (xs),RecsR (xs)]++(Sl 5 1 eB (.slice a5 n5 c5) d.seen.flatten::Sl 5 1 eB (.slice a9 n9 c9) (List.replicate 64 0)::Dk p (cleanTo d.seen.flatten d (tot xs) k)::pt db (.deferred (some []))::R)) [(0,_),(2,_),(3,_),(4,_),(5,_),(11,_)] (fun (k:Nat)=>tot xs+k≤d.sure.length) (fun (k:Nat)=>d.sure.length - k) 0 (by omega) ?_
    intro k hk
    obtain ⟨hok,hsu,hwt⟩:=cleanTo_ok d.seen.flatten d (tot xs) k hd
    refine WP.seq<|WP.seq<|WP.reg<|WL.e e_move<|WL.e e_move ?_
    refine WL.h (h_call (Size_spec) k52 ?_)
    refine WL.e e_lss<|WL.next ?_
    refine WP.cond rfl (fun h4=>?_) (fun h4=>?_)
    ·have hlt:tot xs+k < d.sure.length:=by rw [decide_eq_true_eq,hsu] at h4;omega
     refine WP.skip<|PO.next<|WP.seq<|WP.block<|WP.seq<|WP.reg<|WL.e e_move<|WL.e e_move<|WL.e (e_mul (c:=(((tot xs+k) * 64:Nat):Int)) rfl rfl (by rw [w_i64 (by omega) (by omega)];omega))<|WL.e e_move<|WL.e (e_add (c:=((tot xs+k+1:Nat):Int)) rfl rfl (by rw [w_i64 (by omega) (by omega)];omega))<|WL.e (e_mul (c:=(((tot xs+k+1) * 64:Nat):Int)) rfl rfl (by rw [w_i64 (by omega) (by omega)];omega))<|WL.e (el_fromto (lo:=(tot xs+k) * 64) (hi:=(tot xs+k+1) * 64) (xs:=d.seen.flatten) sl90 sl_rl (by omega) (by omega))<|WL.e e_move ?_
     refine WL.h (h_call (BEqual_spec (xs:=(d.seen.flatten.drop ((tot xs+k) * 64)).take 64) (ys:=List.replicate 64 0) (by have:=RL.sub (lo:=(tot xs+k) * 64) (hi:=(tot xs+k+1) * 64) (mx:=none) eB_ok (sl_rl (E:=5) (z:=1) (enc:=eB) (u:=.slice a5 n5 c5) (xs:=d.seen.flatten)) (by omega) (by omega) (by simp);rwa [show (tot xs+k+1) * 64 - (tot xs+k) * 64=64 by omega] at this) sl_rl) k108 ?_)
     refine WL.e e_not<|WL.next ?_
     refine WP.cond rfl (fun h5=>?_) (fun h5=>?_)
     ·replace h5:¬ (d.seen.flatten.drop ((tot xs+k) * 64)).take 64=List.replicate 64 0:=by simpa using h5
      refine WP.reg<|WL.e e_move<|WL.e e_move<|WL.e e_move ?_
      refine WL.h (h_call (Write_spec (d:=(cleanTo d.seen.flatten d (tot xs) k)) (b:=List.replicate 64 0) (tot xs+k) sl_rl (by rw [hsu];exact hlt) hok.len hok.le (by simp) (by omega)) k109 ?_)
      refine WL.nil<|PO.blockN<|PO.next<|WP.reg<|WL.e e_move<|WL.e (e_add (c:=((tot xs+(k+1):Nat):Int)) rfl rfl (by rw [w_i64 (by omega) (by omega)];omega))<|WL.e e_assign<|WL.nil ?_
      rw [show (cleanTo d.seen.flatten d (tot xs) k).write (tot xs+k) (List.replicate 64 0)=cleanTo d.seen.flatten d (tot xs) (k+1) by rw [cleanTo,if_neg h5]]
      exact PO.againK (k+1) (by omega) (by omega)
     ·replace h5:(d.seen.flatten.drop ((tot xs+k) * 64)).take 64=List.replicate 64 0:=by simpa using h5
      refine WP.skip<|PO.blockN<|PO.next<|WP.reg<|WL.e e_move<|WL.e (e_add (c:=((tot xs+(k+1):Nat):Int)) rfl rfl (by rw [w_i64 (by omega) (by omega)];omega))<|WL.e e_assign<|WL.nil ?_
      rw [show (cleanTo d.seen.flatten d (tot xs) k)=cleanTo d.seen.flatten d (tot xs) (k+1) by rw [cleanTo,if_pos h5]]
      exact PO.againK (k+1) (by omega) (by omega)
    ·obtain rfl:k=d.sure.length - tot xs:=by rw [decide_eq_false_iff_not,hsu] at h4;omega
     refine WP.exit<|PO.past nofun<|PO.round nofun<|PO.blockX<|PO.next<|WP.seq<|WP.draws mixedOk 7<|RW.e 0 rfl (e_load a81)<|RW.e 1 rfl (e_load a82)<|RW.e 2 rfl e_move ?_
     refine RW.any (is:=[3]) rfl ⟨?_,trivial⟩
     refine RWat.h rfl rfl rfl ?_
     refine (h_call (Sync_spec hok.pos hok.len) k110 ?_)
     refine ⟨⟨⟨_,rfl,.inl ⟨rfl,(e_load a82)⟩⟩,⟨_,rfl,.inl ⟨rfl,(e_load a81)⟩⟩,trivial⟩,?_⟩
     refine RW.any (is:=[4]) rfl ⟨?_,trivial⟩
     refine RWat.h' rfl rfl rfl ?_
     refine (h_store s81 ?_)
     refine ⟨⟨⟨_,rfl,.inl ⟨rfl,(e_load a82)⟩⟩,trivial⟩,?_⟩
     refine RW.any (is:=[5]) rfl ⟨?_,trivial⟩
     refine RWat.h' rfl rfl rfl ?_
     refine (h_store s82 ?_)
     refine ⟨trivial,?_⟩
     refine RW.e 6 rfl e_assign<|RW.done<|PO.next<|WP.ret ?_
     exact PO.finM (by repeat first | exact .z | apply Put.s) Tryz.results33 (rv_cell a81 (rv_cell a82 (rv_tmp rv_nil))) (hK b3 sv xs hx)
   ·exact fun _ _ _ _ _ _ hc=>absurd trivial hc
end Go.SL
set_option linter.unusedSectionVars false
namespace Go.SL
open Go
def cmpS (a b:ByteArray):Int:=if sLt a b then -1 else if sLt b a || sEq a b then (if sEq a b then 0 else 1) else 1
theorem sEq_iff {a b:ByteArray}:sEq a b=true↔a=b:=by
  simp only [sEq,beq_iff_eq]
  constructor
  · intro h
    rw [ByteArray.ext_iff]
    apply Array.ext'
    simpa [ByteArray.toList_eq] using h
  · rintro rfl;rfl
theorem bl_irrefl:∀ l:List UInt8,Op.bytesLess l l=false
  | []=>rfl
  | a::l=>by simp [Op.bytesLess,bl_irrefl l]
theorem bl_trans:∀ {a b c:List UInt8},Op.bytesLess a b=true→Op.bytesLess b c=true→Op.bytesLess a c=true
  | [],[],_,h,_=>by simp [Op.bytesLess] at h
  | [],_::_,[],_,h=>by simp [Op.bytesLess] at h
  | [],_::_,_::_,_,_=>by simp [Op.bytesLess]
  | _::_,[],_,h,_=>by simp [Op.bytesLess] at h
  | _::_,_::_,[],_,h=>by simp [Op.bytesLess] at h
  | x::a,y::b,z::c,h,h'=>by
    simp only [Op.bytesLess,Bool.or_eq_true,Bool.and_eq_true,decide_eq_true_eq,beq_iff_eq] at h h' ⊢
    rcases h with h | ⟨rfl,h⟩ <;> rcases h' with h' | ⟨rfl,h'⟩
    · left;exact UInt8.lt_trans h h'
    · exact .inl h
    · exact .inl h'
    · exact .inr ⟨rfl,bl_trans h h'⟩
theorem bl_tri:∀ (a b:List UInt8),Op.bytesLess a b=true∨a=b∨Op.bytesLess b a=true
  | [],[]=>.inr (.inl rfl)
  | [],_::_=>.inl (by simp [Op.bytesLess])
  | _::_,[]=>.inr (.inr (by simp [Op.bytesLess]))
  | x::a,y::b=>by
    simp only [Op.bytesLess,Bool.or_eq_true,Bool.and_eq_true,decide_eq_true_eq,beq_iff_eq,List.cons.injEq]
    rcases UInt8.lt_or_lt_of_ne_or_eq x y with h | h | h
    · exact .inl (.inl h)
    · exact .inr (.inr (.inl h))
    · subst h
      rcases bl_tri a b with h | h | h
      · exact .inl (.inr ⟨rfl,h⟩)
      · exact .inr (.inl ⟨rfl,h⟩)
      · exact .inr (.inr (.inr ⟨rfl,h⟩))
where
  UInt8.lt_or_lt_of_ne_or_eq (x y:UInt8):x < y∨y < x∨x=y:=by
    rcases Nat.lt_trichotomy x.toNat y.toNat with h | h | h
    · exact .inl (UInt8.lt_iff_toNat_lt.2 h)
    · exact .inr (.inr (UInt8.toNat_inj.1 h))
    · exact .inr (.inl (UInt8.lt_iff_toNat_lt.2 h))
theorem sLt_irrefl (a:ByteArray):sLt a a=false:=bl_irrefl _
theorem sLt_trans {a b c:ByteArray} (h:sLt a b=true) (h':sLt b c=true):sLt a c=true:=bl_trans h h'
theorem sLt_tri (a b:ByteArray):sLt a b=true∨a=b∨sLt b a=true:=by
  rcases bl_tri a.toList b.toList with h | h | h
  · exact .inl h
  · refine .inr (.inl (sEq_iff.1 ?_));simp [sEq,h]
  · exact .inr (.inr h)
theorem sLt_asymm {a b:ByteArray} (h:sLt a b=true):sLt b a=false:=by
  cases e:sLt b a with
  | false=>rfl
  | true=>have:=sLt_trans h e;rw [sLt_irrefl] at this;cases this
def Rising (l:List RowM):Prop:=l.Pairwise fun a b=>sLt a.key b.key=true
def lowI (l:List RowM) (k:ByteArray):Nat:=(l.takeWhile fun r=>sLt r.key k).length
def hasI (l:List RowM) (k:ByteArray):Bool:=match l[lowI l k]? with
  | some r=>sEq r.key k
  | none=>false
theorem lowI_le (l:List RowM) (k:ByteArray):lowI l k≤l.length:=(List.takeWhile_sublist _).length_le
theorem low_le {l:List RowM} {k:ByteArray} {h:Nat} {x:RowM} (hx:l[h]?=some x) (hp:sLt x.key k=false):lowI l k≤h:=by
  induction l generalizing h with
  | nil=>simp at hx
  | cons a l ih=>
    unfold lowI at *
    rw [List.takeWhile_cons]
    cases h with
    | zero=>simp at hx;subst hx;simp [hp]
    | succ h=>
      simp at hx
      split
      · simp;exact ih hx
      · simp
theorem low_gt {l:List RowM} {k:ByteArray} (hl:Rising l) {h:Nat} {x:RowM} (hx:l[h]?=some x) (hp:sLt x.key k=true):h < lowI l k:=by
  induction l generalizing h with
  | nil=>simp at hx
  | cons a l ih=>
    have hr:=List.pairwise_cons.1 hl
    unfold lowI at *
    rw [List.takeWhile_cons]
    cases h with
    | zero=>simp at hx;subst hx;simp [hp]
    | succ h=>
      simp at hx
      have ha:sLt a.key k=true:=sLt_trans (hr.1 x (List.mem_of_getElem? hx)) hp
      simp [ha];exact ih hr.2 hx
theorem cmpS_lt (a b:ByteArray):decide (cmpS a b < 0)=sLt a b:=by
  unfold cmpS
  cases sLt a b <;> simp
  split <;> (try split) <;> simp
theorem cmpS_eq {a b:ByteArray}:(cmpS a b == 0)=sEq a b:=by
  unfold cmpS
  by_cases h:sEq a b=true
  · have:=sEq_iff.1 h;subst this;simp [sLt_irrefl,h]
  · simp only [Bool.not_eq_true] at h
    rw [h];split <;> (try split) <;> simp_all
end Go.SL
namespace Go.SL.Fc
open Go Go.Proofs Go.SL
theorem a142:aggOf Tryz.prog 142=some (some 2):=by kernel_rfl
theorem a334:aggOf Tryz.prog 334=some none:=by kernel_rfl
theorem a59:aggOf Tryz.prog 59=some none:=by kernel_rfl
theorem f142_0:fldOf Tryz.prog 142 0=some 0:=by kernel_rfl
theorem f285_0:fldOf Tryz.prog 285 0=some 0:=by kernel_rfl
theorem f285_1:fldOf Tryz.prog 285 1=some 1:=by kernel_rfl
theorem k248:callable Tryz.prog 248=true:=by kernel_rfl
theorem k249:callable Tryz.prog 249=true:=by kernel_rfl
theorem k261:callable Tryz.prog 261=true:=by kernel_rfl
theorem k262:callable Tryz.prog 262=true:=by kernel_rfl
theorem k263:callable Tryz.prog 263=true:=by kernel_rfl
theorem k268:callable Tryz.prog 268=true:=by kernel_rfl
theorem p285:placesOf Tryz.prog 285=some [(0,1),(1,1)]:=by kernel_rfl
theorem pt191:isPtr Tryz.prog 191=true:=by kernel_rfl
theorem sl59:slOf Tryz.prog 59=some (142,2,24):=by kernel_rfl
theorem z142:zeroOf Tryz.prog 142=some [.string .empty,.int .u32 0]:=by kernel_rfl
theorem z285:zeroOf Tryz.prog 285=some [.slice none 0 0,.bool false]:=by kernel_rfl
end Go.SL.Fc
namespace Go.SL
open Go Go.Proofs Fc
theorem isNaN_spec {g:World} (a:ByteArray):Spec Tryz.prog g 268 [.string a] [] fun K R=>K (.bool false) R:=by
 refine Spec.intro Tryz.func268 rfl Tryz.ntmps268 rfl fun R K hK=>?_
 refine WP.seq<|WP.reg<|WL.e e_assign<|WL.next<|WP.seq<|WP.reg<|WL.e e_move<|WL.e e_move<|WL.e e_sne<|WL.e e_assign<|WL.next<|WP.ret ?_
 exact PO.finE Tryz.results268 (rv_tmp rv_nil) (by simp [sEq]) hK
theorem cmp_spec {g:World} (a b:ByteArray):Spec Tryz.prog g 263 [.string a,.string b] [] fun K R=>K (.int .i64 (cmpS a b)) R:=by
 refine Spec.intro Tryz.func263 rfl Tryz.ntmps263 rfl fun R K hK=>?_
 refine WP.seq<|WP.reg<|WL.e e_assign<|WL.next<|WP.seq<|WP.reg<|WL.e e_move ?_
 refine WL.h (h_call (isNaN_spec _) k268 ?_)
 refine WL.e e_assign<|WL.next<|WP.seq<|WP.reg<|WL.e e_move ?_
 refine WL.h (h_call (isNaN_spec _) k268 ?_)
 refine WL.e e_assign<|WL.next<|WP.seq<|WP.seq<|WP.reg<|WL.e e_move<|WL.next<|WP.cond_f rfl<|WP.skip<|PO.next<|WP.seq<|WP.seq<|WP.reg<|WL.e e_move<|WL.next<|WP.cond_f rfl<|WP.skip<|PO.next<|WP.seq<|WP.seq<|WP.reg<|WL.e e_move<|WL.e e_move<|WL.e e_slt ?_
 refine WL.next ?_
 refine WP.cond rfl (fun h1=>?_) (fun h1=>?_)
 ·skip
  refine WP.seq<|WP.reg<|WL.e e_assign<|WL.next<|WP.ret<|PO.past nofun ?_
  exact PO.finE Tryz.results263 (rv_tmp rv_nil) (by simp_all [cmpS]) hK
 ·skip
  refine WP.skip<|PO.next<|WP.seq<|WP.seq<|WP.reg<|WL.e e_move<|WL.e e_move<|WL.e e_sgt<|WL.next ?_
  refine WP.cond rfl (fun h2=>?_) (fun h2=>?_)
  ·skip
   refine WP.seq<|WP.reg<|WL.e e_assign<|WL.next<|WP.ret<|PO.past nofun ?_
   exact PO.finE Tryz.results263 (rv_tmp rv_nil) (by simp_all [cmpS]) hK
  ·skip
   refine WP.skip<|PO.next<|WP.seq<|WP.reg<|WL.e e_assign<|WL.next<|WP.ret ?_
   exact PO.finE Tryz.results263 (rv_tmp rv_nil) (by simp_all [cmpS]) hK
theorem rowKey_spec {g:World} (x:RowM):Spec Tryz.prog g 249 [x.v] [] fun K R=>K (.string x.key) R:=by
 refine Spec.intro Tryz.func249 rfl Tryz.ntmps249 rfl fun R K hK=>?_
 refine WP.seq<|WP.reg ?_
 refine WL.h (h_box fun b1=>?_)
 refine WL.e e_assign<|WL.next<|WP.seq<|WP.reg<|WL.e (e_fa f142_0)<|WL.e (e_load a9)<|WL.e e_assign<|WL.next<|WP.ret ?_
 exact PO.fin Tryz.results249 (rv_tmp rv_nil) hK
theorem cmpRow_spec {g:World} (x:RowM) (k:ByteArray) (cb:Nat):Spec Tryz.prog g 262 [x.v,.string k,.pointer (some ⟨cb,0,none⟩)] [cl cb 334 [.func (.func 249) #[] #[]]] fun K R=>K (.int .i64 (cmpS x.key k)) (cl cb 334 [.func (.func 249) #[] #[]]::R):=by
 refine Spec.intro Tryz.func262 rfl Tryz.ntmps262 rfl fun R K hK=>?_
 refine WP.seq<|WP.reg ?_
 refine WL.h (h_box fun b1=>?_)
 refine WL.e e_assign<|WL.next<|WP.seq<|WP.reg<|WL.e (e_load a334)<|WL.e (e_loadN a142) ?_
 refine WL.h (h_callv (fs:=[]) (cs:=[]) (args:=[x.v]) (rowKey_spec x) k249 ?_)
 refine WL.e e_move ?_
 refine WL.h (h_call (cmp_spec _ _) k263 ?_)
 refine WL.e e_assign<|WL.next<|WP.ret ?_
 exact PO.fin Tryz.results262 (rv_tmp rv_nil) hK
theorem BSF_spec {g:World} {A:HP} {u y:Value} {l:List RowM} {k:ByteArray} {B:HP} (hA:RL A 2 RowM.c u l) (hl:Rising l) (hn:l.length≤68719476736) (hy:∀ x:RowM,CallV Tryz.prog g y [x.v,.string k] [B] fun K R=>K (.int .i64 (cmpS x.key k)) (B::R)) :
  Spec Tryz.prog g 261 [u,.string k,y] [A,B] fun K R=>K (.tuple #[.int .i64 (lowI l k),.bool (hasI l k)]) (A::B::R):=by
 refine Spec.intro Tryz.func261 rfl Tryz.ntmps261 rfl fun R K hK=>?_
 refine WP.seq<|WP.reg<|WL.e e_assign<|WL.e e_assign<|WL.next<|WP.seq<|WP.reg<|WL.e e_move<|WL.e (el_len sl59 hA)<|WL.e e_assign<|WL.next<|WP.seq<|WP.reg<|WL.e e_move<|WL.e e_assign<|WL.e e_assign<|WL.next<|WP.seq<|WP.block<|WP.loopK (fun (x:Nat × Nat)=>[(9,.int .i64 x.1),(10,.int .i64 x.2)]) (fun (x:Nat × Nat)=>A::B::R) [(0,_),(1,_),(2,_),(6,_),(7,_),(8,_)] (fun (x:Nat × Nat)=>x.1≤lowI l k∧lowI l k≤x.2∧x.2≤l.length) (fun (x:Nat × Nat)=>x.2 - x.1) (0,l.length) (⟨Nat.zero_le _,lowI_le l k,Nat.le_refl _⟩) ?_
 rintro ⟨i,j⟩ ⟨h1,h2,h3⟩
 simp only at h1 h2 h3
 dsimp only
 refine WP.seq<|WP.seq<|WP.reg<|WL.e e_move<|WL.e e_move<|WL.e e_lss<|WL.next ?_
 refine WP.cond rfl (fun h4=>?_) (fun h4=>?_)
 ·have hij:i < j:=by rw [decide_eq_true_eq] at h4;omega
  obtain ⟨r,hr⟩:∃ r,l[(i+j) / 2]?=some r:=⟨_,List.getElem?_eq_getElem (by omega)⟩
  refine WP.skip<|PO.next<|WP.block<|WP.seq<|WP.reg<|WL.e e_move<|WL.e e_move<|WL.e (e_add (c:=((i+j:Nat):Int)) rfl rfl (by rw [w_i64 (by omega) (by omega)];omega))<|WL.e (e_conv (c:=((i+j:Nat):Int)) (by rw [Tryz.underlying3];rfl) Tryz.underlying269 rfl (by simp [IntKind.wrap,IntKind.bits,IntKind.signed];omega))<|WL.e (e_shrN (k:=.u64) (a:=i+j) (m:=1) (by decide))<|WL.e (e_conv (c:=(((i+j) / 2:Nat):Int)) (by rw [Tryz.underlying269];rfl) Tryz.underlying3 rfl (w_i64 (by omega) (by omega)))<|WL.e e_assign<|WL.next<|WP.seq<|WP.reg<|WL.e e_move<|WL.e e_move<|WL.e e_move<|WL.e (el_ia (j:=(i+j) / 2) sl59 hA (by omega))<|WL.e (el_loadN a142 rowE hA hr)<|WL.e e_move ?_
  refine WL.h (h_cally (hy r) ?_)
  refine WL.e e_lss<|WL.next ?_
  refine WP.cond rfl (fun h5=>?_) (fun h5=>?_)
  ·rw [cmpS_lt] at h5
   refine WP.reg<|WL.e e_move<|WL.e (e_add (c:=(((i+j) / 2+1:Nat):Int)) rfl rfl (by rw [w_i64 (by omega) (by omega)];omega))<|WL.e e_assign<|WL.nil<|PO.blockN ?_
   exact PO.againK ((i+j) / 2+1,j) ⟨low_gt hl hr h5,h2,h3⟩ (by simp only;omega)
  ·rw [cmpS_lt] at h5
   refine WP.reg<|WL.e e_move<|WL.e e_assign<|WL.nil<|PO.blockN ?_
   exact PO.againK (i,(i+j) / 2) ⟨h1,low_le hr h5,by simp only;omega⟩ (by simp only;omega)
 ·obtain rfl:i=lowI l k:=by rw [decide_eq_false_iff_not] at h4;omega
  refine WP.exit<|PO.past nofun<|PO.round nofun<|PO.blockX<|PO.next<|WP.seq<|WP.reg<|WL.e e_move<|WL.e e_move<|WL.e e_move<|WL.e e_lss<|WL.e e_move ?_
  refine WL.bool 39 rfl (fun h6=>?_) (fun h6=>?_)
  ·obtain ⟨r,hr⟩:∃ r,l[lowI l k]?=some r:=⟨_,List.getElem?_eq_getElem (by rw [decide_eq_true_eq] at h6;omega)⟩
   refine WL.e e_move<|WL.e e_move<|WL.e e_move<|WL.e (el_ia (j:=lowI l k) sl59 hA (idx_lt hr))<|WL.e (el_loadN a142 rowE hA hr)<|WL.e e_move ?_
   refine WL.h (h_cally (hy r) ?_)
   refine WL.e e_eql<|WL.e e_pick_t<|WL.e e_assign<|WL.e e_assign<|WL.next<|WP.ret ?_
   exact PO.finE Tryz.results261 (rv_tmp (rv_tmp rv_nil)) (by simp [hasI,hr,cmpS_eq]) hK
  ·skip
   refine WL.skip<|WL.skip<|WL.skip<|WL.skip<|WL.skip<|WL.skip<|WL.skip<|WL.skip<|WL.e e_pick_f<|WL.e e_assign<|WL.e e_assign<|WL.next<|WP.ret ?_
   exact PO.finE Tryz.results261 (rv_tmp (rv_tmp rv_nil)) (by rw [decide_eq_false_iff_not] at h6;simp [hasI,List.getElem?_eq_none (show l.length≤lowI l k by omega)]) hK
theorem place_spec {g:World} {A:HP} {u:Value} {l:List RowM} (k:ByteArray) (hA:RL A 2 RowM.c u l) (hl:Rising l) (hn:l.length≤68719476736) :
  Spec Tryz.prog g 248 [u,.string k,.func (.func 249) #[] #[]] [A] fun K R=>K (.tuple #[.int .i64 (lowI l k),.bool (hasI l k)]) (A::R):=by
 refine Spec.intro Tryz.func248 rfl Tryz.ntmps248 rfl fun R K hK=>?_
 refine WP.seq<|WP.reg ?_
 refine WL.h (h_box fun b1=>?_)
 refine WL.e e_assign<|WL.e e_assign<|WL.next<|WP.seq<|WP.reg<|WL.e e_move<|WL.e e_move<|WL.e e_makeFunc ?_
 refine WL.h (h_call (BSF_spec (k:=k) hA hl hn (fun x=>CallV.of_spec (fs:=[]) (cs:=[.pointer (some ⟨b1,0,none⟩)]) (cmpRow_spec x k b1) k262)) k261 ?_)
 refine WL.e e_extract<|WL.e e_extract<|WL.e e_assign<|WL.e e_assign<|WL.next<|WP.ret ?_
 exact PO.fin Tryz.results248 (rv_tmp (rv_tmp rv_nil)) hK
def Mm (p:Nat) (l:List RowM):HP:=fun S=>∃ x:SV,stars [cl p 285 [x.v,.bool true],Sl 142 2 RowM.c x.v l] S
theorem Mm_op {p:Nat} {l:List RowM}:∀ S,Mm p l S→∃ x:SV,stars [cl p 285 [x.v,.bool true],Sl 142 2 RowM.c x.v l] S:=fun _ h=>h
theorem find_spec {g:World} {p:Nat} {l:List RowM} (k:ByteArray) (hl:Rising l) (hn:l.length≤68719476736):Spec Tryz.prog g 222 [.pointer (some ⟨p,0,none⟩),.string k] [Mm p l] fun K R=>K (.tuple #[.int .i64 (lowI l k),.bool (hasI l k)]) (Mm p l::R):=by
 refine Spec.intro Tryz.func222 rfl Tryz.ntmps222 rfl fun R K hK=>?_
 refine WP.opn (Mm_op (p:=p) (l:=l)) fun s=>?_
 refine WP.seq<|WP.reg<|WL.e e_assign<|WL.e e_assign<|WL.next<|WP.seq<|WP.reg<|WL.e e_move<|WL.e e_nil<|WL.e (e_fa f285_0)<|WL.e (e_load a59)<|WL.e e_move ?_
 refine WL.h (h_call (place_spec k (sl_rl (xs:=l)) hl hn) k248 ?_)
 refine WL.e e_extract<|WL.e e_extract<|WL.e e_assign<|WL.e e_assign<|WL.next<|WP.ret<|PO.cls (A:=Mm p l) (B:=[cl p 285 [s.v,.bool true],Sl 142 2 RowM.c (s.v) l]) (fun S h=>⟨s,h⟩) ?_
 exact PO.fin Tryz.results222 (rv_tmp (rv_tmp rv_nil)) hK
theorem MNew_spec {g:World}:Spec Tryz.prog g 142 [] [] fun K R=>∀ p,K (.pointer (some ⟨p,0,none⟩)) (Mm p []::R):=by
 refine Spec.intro Tryz.func142 rfl Tryz.ntmps142 rfl fun R K hK=>?_
 refine WP.seq<|WP.reg<|WL.e e_assign<|WL.next<|WP.seq<|WP.reg<|WL.e (e_build z285 p285 (.z (.slice none 0 0)<|.o (.const (.bool true)) rfl<|.n)) ?_
 refine WL.h (h_box fun b1=>?_)
 refine WL.e e_assign<|WL.next<|WP.ret<|PO.nils 142 2 RowM.c none ?_
 refine PO.cls (A:=Mm b1 []) (B:=[cl b1 285 [.slice none 0 0,.bool true],Sl 142 2 RowM.c (.slice none 0 0) []]) (fun S h=>⟨⟨none,0,0⟩,h⟩) ?_
 exact PO.fin Tryz.results142 (rv_tmp rv_nil) (hK b1)
theorem Mthere_spec {g:World} {p:Nat} {l:List RowM}:Spec Tryz.prog g 221 [.pointer (some ⟨p,0,none⟩)] [Mm p l] fun K R=>K (.bool true) (Mm p l::R):=by
 refine Spec.intro Tryz.func221 rfl Tryz.ntmps221 rfl fun R K hK=>?_
 refine WP.opn (Mm_op (p:=p) (l:=l)) fun s=>?_
 refine WP.seq<|WP.reg<|WL.e e_assign<|WL.next<|WP.seq<|WP.reg<|WL.e e_move<|WL.e (e_pne pt191)<|WL.e e_move ?_
 refine WL.bool 5 rfl (fun h=>?_) (fun h=>?_)
 ·skip
  refine WL.e e_move<|WL.e e_nil<|WL.e (e_fa f285_1)<|WL.e (e_load a4)<|WL.e e_pick_t<|WL.e e_assign<|WL.next<|WP.ret<|PO.cls (A:=Mm p l) (B:=[cl p 285 [s.v,.bool true],Sl 142 2 RowM.c (s.v) l]) (fun S h=>⟨s,h⟩) ?_
  exact PO.fin Tryz.results221 (rv_tmp rv_nil) hK
 ·cases h 
theorem CloneR_spec {g:World} {A:HP} {u:Value} {xs:List RowM} (hA:RL A 2 RowM.c u xs) (hb:xs.length≤68719476736):Spec Tryz.prog g 139 [u] [A] fun K R=>∀ a m c,K (.slice a m c) (Sl 142 2 RowM.c (.slice a m c) xs::A::R):=by
 refine Spec.intro Tryz.func139 rfl Tryz.ntmps139 rfl fun R K hK=>?_
 refine WP.seq<|WP.reg<|WL.e e_assign<|WL.next<|WP.seq<|WP.seq<|WP.reg<|WL.e e_move<|WL.e (e_slnil sl59 hA)<|WL.next ?_
 refine WP.cond rfl (fun h=>?_) (fun h=>?_)
 ·refine WP.know (φ:=xs=[]) (Pick.know (A:=A) (by exact .z) fun S hS=>?_) fun hx=>?_
  ·rcases hA S hS with ⟨h0,_⟩ | ⟨b,o,c,l,t,e,_⟩
   ·simpa using h0
   ·rw [e] at h;cases h
  subst hx
  refine WP.nils 142 2 RowM.c none ?_
  refine WP.seq<|WP.reg<|WL.e e_assign<|WL.next<|WP.ret<|PO.past nofun ?_
  exact PO.fin Tryz.results139 (rv_tmp rv_nil) (hK none 0 0)
 ·skip
  refine WP.skip<|PO.next<|WP.seq<|WP.reg ?_
  refine WL.h (h_bs0 sl59 (enc:=RowM.c) fun a1 n1 c1=>?_)
  refine WL.e e_move ?_
  refine WL.h (hl_append (xs:=[]) (ys:=xs) sl59 rowE z142 hA (by simp;omega) fun a2 n2 c2=>?_)
  rw [List.nil_append]
  refine WL.e e_assign<|WL.next<|WP.ret ?_
  exact PO.fin Tryz.results139 (rv_tmp rv_nil) (hK a2 n2 c2)
end Go.SL
namespace Go.SL
open Go
theorem stars_one {b:Nat} {o:Obj} {S:Piece} (h:stars [pt b o] S):pt b o S:=by
  obtain ⟨S1,S2,_,h1,_,h2,_⟩:=h;exact h1 _ _ h2
section
variable {P : Program} {r : Option Nat} {g : World} {Γ : Env} {L M : List HP} {Q : Post} {dst : Option Tmp} {t : TypeId} {pos : String} {aft : Array Edge} {gd : Option (Nat × Bool)}
theorem splice_mid (U V W vs:List Value) (h:vs.length=V.length):splice (U++V++W) U.length vs=U++vs++W:=by
  rw [splice_eq _ _ _ (by simp [h])]
  rw [List.append_assoc U V W,List.take_left,← List.append_assoc,List.drop_append,List.drop_eq_nil_of_le (by simp [h])]
  simp [h]
end
end Go.SL
namespace Go.SL
open Go
theorem rd_part {α:Type} {z o b n c:Nat} {enc:α→List Value} (he:EncOk z enc) {T:TypeId} {l:List Value} {xs:List α} {u:Value} (hA:At u b o n c) (hl:o+c * z≤l.length) (hn:xs.length=n) (hcs:(l.drop o).take (n * z)=xs.flatMap enc):RL (cl b T l) z enc u xs:=by
  unfold RL;rw [hn,← hcs];exact hA.rd hl
end Go.SL
namespace Go.SL.W7
open Go Go.Proofs Go.SL
end Go.SL.W7
namespace Go.SL
open Go Go.Proofs W7
theorem ext_of {l:List Value} {n:Nat} (h:l.length=n):Ext l 0 n l:=h ▸ ext_all l
theorem index_at {α:Type} {p:α→Bool} {xs:List α} {i:Nat} {x:α} (h:(xs.take i).any p=false) (hx:xs[i]?=some x) (hp:p x=true):(if xs.any p then ((xs.findIdx p:Nat):Int) else -1)=i:=by
 have h1:xs.any p=true:=List.any_eq_true.2 ⟨x,List.mem_of_getElem? hx,hp⟩
 rw [if_pos h1]
 congr 1
 have hlt:=idx_lt hx
 rw [List.findIdx_eq hlt]
 refine ⟨by rw [List.getElem?_eq_getElem hlt] at hx;cases hx;exact hp,fun j hj=>?_⟩
 rw [List.any_eq_false] at h
 have:=h xs[j] (by rw [List.mem_take_iff_getElem];exact ⟨j,by omega,rfl⟩)
 simpa using this
end Go.SL
namespace Go.SL.W8
open Go Go.Proofs Go.SL
end Go.SL.W8
namespace Go.SL
open Go Go.Proofs W8
end Go.SL
namespace Go.SL
open Go
theorem key_split {l:List RowM} (hl:Rising l) (k:ByteArray):∃ A D,l=A++D∧A.length=lowI l k∧(∀ r ∈ A,sLt r.key k=true)∧(∀ r ∈ D,sLt r.key k=false)∧Rising A∧Rising D:=by
 refine ⟨l.takeWhile fun r=>sLt r.key k,l.dropWhile fun r=>sLt r.key k,List.takeWhile_append_dropWhile.symm,rfl,fun r hr=>?_,fun r hr=>?_,hl.sublist (List.takeWhile_sublist _),hl.sublist (List.dropWhile_sublist _)⟩
 ·have:=List.all_takeWhile (p:=fun r:RowM=>sLt r.key k) (l:=l)
  exact List.all_eq_true.1 this r hr
 ·have hd:=hl.sublist (List.dropWhile_sublist (fun r=>sLt r.key k))
  have hh:∀ x y,l.dropWhile (fun r=>sLt r.key k)=x::y→sLt x.key k=false:=fun x y e=>by
   have:=List.head_dropWhile_not (fun r:RowM=>sLt r.key k) (l:=l) (by rw [e];simp)
   simpa [e] using this
  cases e:l.dropWhile (fun r=>sLt r.key k) with
  | nil=>rw [e] at hr;cases hr
  | cons x y=>
   have hx:=hh x y e
   rw [e] at hr hd
   rcases List.mem_cons.1 hr with rfl | hr
   ·exact hx
   ·have:=(List.pairwise_cons.1 hd).1 r hr
    cases e2:sLt r.key k with
    | false=>rfl
    | true=>have:=sLt_trans this e2;rw [hx] at this;cases this
theorem key_cut {l:List RowM} (hl:Rising l) (k:ByteArray):(∃ A v D,l=A++⟨k,v⟩::D∧A.length=lowI l k∧hasI l k=true∧(∀ r ∈ A,sLt r.key k=true)∧(∀ r ∈ D,sLt k r.key=true)∧Rising A∧Rising D) ∨
  (∃ A D,l=A++D∧A.length=lowI l k∧hasI l k=false∧(∀ r ∈ A,sLt r.key k=true)∧(∀ r ∈ D,sLt k r.key=true)∧Rising A∧Rising D):=by
 obtain ⟨A,D,he,ha,h1,h2,h3,h4⟩:=key_split hl k
 have hat:l[lowI l k]?=D.head?:=by
  rw [← ha];conv=>lhs;rw [he]
  rw [List.getElem?_append_right (Nat.le_refl _),Nat.sub_self,List.head?_eq_getElem?]
 cases D with
 | nil=>
  right
  exact ⟨A,[],he,ha,by simp only [hasI,hat];rfl,h1,by simp,h3,h4⟩
 | cons x D=>
  have hp:=List.pairwise_cons.1 h4
  have hx:=h2 x (by simp)
  by_cases e:x.key=k
  ·left
   subst e
   exact ⟨A,x.val,D,he,ha,by simp [hasI,hat,sEq_iff],h1,fun r hr=>hp.1 r hr,h3,hp.2⟩
  ·right
   have hxk:sLt k x.key=true:=by
    rcases sLt_tri x.key k with h | h | h
    ·rw [hx] at h;cases h
    ·exact absurd h e
    ·exact h
   refine ⟨A,x::D,he,ha,?_,h1,fun r hr=>?_,h3,h4⟩
   ·simp only [hasI,hat,List.head?_cons]
    cases e2:sEq x.key k with
    | false=>rfl
    | true=>exact absurd (sEq_iff.1 e2) e
   ·rcases List.mem_cons.1 hr with rfl | hr
    ·exact hxk
    ·exact sLt_trans hxk (hp.1 r hr)
def setR (l:List RowM) (k:ByteArray) (v:UInt32):List RowM:=if hasI l k then l.set (lowI l k) ⟨k,v⟩ else l.take (lowI l k)++⟨k,v⟩::l.drop (lowI l k)
def dropR (l:List RowM) (k:ByteArray):List RowM:=if hasI l k then l.eraseIdx (lowI l k) else l
theorem sLt_ne {a b:ByteArray} (h:sLt a b=true):a≠b:=fun e=>by subst e;rw [sLt_irrefl] at h;cases h
theorem rising_mid {A D:List RowM} {x:RowM} (h1:∀ r ∈ A,sLt r.key x.key=true) (h2:∀ r ∈ D,sLt x.key r.key=true) (hA:Rising A) (hD:Rising D):Rising (A++x::D):=by
 refine List.pairwise_append.2 ⟨hA,List.pairwise_cons.2 ⟨h2,hD⟩,fun a ha b hb=>?_⟩
 rcases List.mem_cons.1 hb with rfl | hb
 ·exact h1 a ha
 ·exact sLt_trans (h1 a ha) (h2 b hb)
theorem rising_two {A D:List RowM} {k:ByteArray} (h1:∀ r ∈ A,sLt r.key k=true) (h2:∀ r ∈ D,sLt k r.key=true) (hA:Rising A) (hD:Rising D):Rising (A++D):=
 List.pairwise_append.2 ⟨hA,hD,fun a ha b hb=>sLt_trans (h1 a ha) (h2 b hb)⟩
theorem setR_spec {l:List RowM} (hl:Rising l) (k:ByteArray) (v:UInt32):Rising (setR l k v)∧(∀ r,r ∈ setR l k v↔r=⟨k,v⟩∨(r ∈ l∧r.key≠k))∧(setR l k v).length≤l.length+1:=by
 rcases key_cut hl k with ⟨A,u,D,he,ha,hh,h1,h2,h3,h4⟩ | ⟨A,D,he,ha,hh,h1,h2,h3,h4⟩
 ·have e:setR l k v=A++⟨k,v⟩::D:=by
   unfold setR;rw [if_pos hh,← ha];conv=>lhs;rw [he]
   simp
  rw [e]
  refine ⟨rising_mid h1 h2 h3 h4,fun r=>?_,by rw [he];simp⟩
  rw [he]
  simp only [List.mem_append,List.mem_cons]
  constructor
  ·rintro (h | rfl | h)
   ·exact .inr ⟨.inl h,sLt_ne (h1 r h)⟩
   ·exact .inl rfl
   ·exact .inr ⟨.inr (.inr h),(sLt_ne (h2 r h)).symm⟩
  ·rintro (rfl | ⟨h | rfl | h,hn⟩)
   ·exact .inr (.inl rfl)
   ·exact .inl h
   ·exact absurd rfl hn
   ·exact .inr (.inr h)
 ·have e:setR l k v=A++⟨k,v⟩::D:=by
   unfold setR;rw [if_neg (by simp [hh]),← ha];conv=>lhs;rw [he]
   simp
  rw [e]
  refine ⟨rising_mid h1 h2 h3 h4,fun r=>?_,by rw [he];simp;omega⟩
  rw [he]
  simp only [List.mem_append,List.mem_cons]
  constructor
  ·rintro (h | rfl | h)
   ·exact .inr ⟨.inl h,sLt_ne (h1 r h)⟩
   ·exact .inl rfl
   ·exact .inr ⟨.inr h,(sLt_ne (h2 r h)).symm⟩
  ·rintro (rfl | ⟨h | h,hn⟩)
   ·exact .inr (.inl rfl)
   ·exact .inl h
   ·exact .inr (.inr h)
theorem dropR_spec {l:List RowM} (hl:Rising l) (k:ByteArray):Rising (dropR l k)∧(∀ r,r ∈ dropR l k↔r ∈ l∧r.key≠k)∧(dropR l k).length≤l.length:=by
 rcases key_cut hl k with ⟨A,u,D,he,ha,hh,h1,h2,h3,h4⟩ | ⟨A,D,he,ha,hh,h1,h2,h3,h4⟩
 ·have e:dropR l k=A++D:=by
   unfold dropR;rw [if_pos hh,← ha];conv=>lhs;rw [he]
   rw [List.eraseIdx_append_of_length_le (Nat.le_refl _)];simp
  rw [e]
  refine ⟨rising_two h1 h2 h3 h4,fun r=>?_,by rw [he];simp⟩
  rw [he]
  simp only [List.mem_append,List.mem_cons]
  constructor
  ·rintro (h | h)
   ·exact ⟨.inl h,sLt_ne (h1 r h)⟩
   ·exact ⟨.inr (.inr h),(sLt_ne (h2 r h)).symm⟩
  ·rintro ⟨h | rfl | h,hn⟩
   ·exact .inl h
   ·exact absurd rfl hn
   ·exact .inr h
 ·have e:dropR l k=l:=by unfold dropR;rw [if_neg (by simp [hh])]
  rw [e]
  refine ⟨hl,fun r=>⟨fun h=>⟨h,?_⟩,fun h=>h.1⟩,Nat.le_refl _⟩
  rw [he] at h
  rcases List.mem_append.1 h with h | h
  ·exact sLt_ne (h1 r h)
  ·exact (sLt_ne (h2 r h)).symm
theorem rising_ext {a b:List RowM} (ha:Rising a) (hb:Rising b) (h:∀ r,r ∈ a↔r ∈ b):a=b:=by
 induction a generalizing b with
 | nil=>
  cases b with
  | nil=>rfl
  | cons x b=>have:=(h x).2 (by simp);cases this
 | cons x a ih=>
  have hpa:=List.pairwise_cons.1 ha
  cases b with
  | nil=>have:=(h x).1 (by simp);cases this
  | cons y b=>
   have hpb:=List.pairwise_cons.1 hb
   have exy:x=y:=by
    rcases List.mem_cons.1 ((h x).1 (by simp)) with e | hx
    ·exact e
    ·rcases List.mem_cons.1 ((h y).2 (by simp)) with e | hy
     ·exact e.symm
     ·have:=sLt_trans (hpb.1 x hx) (hpa.1 y hy)
      rw [sLt_irrefl] at this;cases this
   subst exy
   congr 1
   refine ih hpa.2 hpb.2 fun r=>?_
   constructor
   ·intro hr
    rcases List.mem_cons.1 ((h r).1 (by simp [hr])) with e | h'
    ·subst e;have:=hpa.1 r hr;rw [sLt_irrefl] at this;cases this
    ·exact h'
   ·intro hr
    rcases List.mem_cons.1 ((h r).2 (by simp [hr])) with e | h'
    ·subst e;have:=hpb.1 r hr;rw [sLt_irrefl] at this;cases this
    ·exact h'
theorem rising_one {l:List RowM} (hl:Rising l) {a b:RowM} (ha:a ∈ l) (hb:b ∈ l) (h:a.key=b.key):a=b:=by
 induction l with
 | nil=>cases ha
 | cons x l ih=>
  have hp:=List.pairwise_cons.1 hl
  rcases List.mem_cons.1 ha with e1 | h1 <;> rcases List.mem_cons.1 hb with e2 | h2
  ·rw [e1,e2]
  ·subst e1;exact absurd h (sLt_ne (hp.1 b h2))
  ·subst e2;exact absurd h.symm (sLt_ne (hp.1 a h1))
  ·exact ih hp.2 h1 h2
def applyC (l:List RowM) (c:ChgM):List RowM:=if c.gone then dropR l c.key else setR l c.key c.val
def changeR (l:List RowM) (cs:List ChgM):List RowM:=cs.foldl applyC l
theorem applyC_rising {l:List RowM} (hl:Rising l) (c:ChgM):Rising (applyC l c)∧(applyC l c).length≤l.length+1:=by
 unfold applyC;split
 ·exact ⟨(dropR_spec hl _).1,Nat.le_succ_of_le (dropR_spec hl _).2.2⟩
 ·exact ⟨(setR_spec hl _ _).1,(setR_spec hl _ _).2.2⟩
theorem changeR_rising:∀ (cs:List ChgM) {l:List RowM},Rising l→Rising (changeR l cs)∧(changeR l cs).length≤l.length+cs.length
 | [],_,h=>⟨h,Nat.le_refl _⟩
 | c::cs,l,h=>by
  have h1:=applyC_rising h c
  have h2:=changeR_rising cs h1.1
  exact ⟨h2.1,by have:=h2.2;simp only [changeR,List.foldl_cons,List.length_cons] at *;omega⟩
theorem mem_applyC {l:List RowM} (hl:Rising l) (c:ChgM) (r:RowM):r ∈ applyC l c↔(c.gone=false∧r=⟨c.key,c.val⟩)∨(r ∈ l∧r.key≠c.key):=by
 unfold applyC;split
 ·rename_i h;rw [(dropR_spec hl _).2.1];simp [h]
 ·rename_i h;rw [(setR_spec hl _ _).2.1];simp [h]
def inSpan (p:SpanM) (k:ByteArray):Bool:=sIn k p.a p.b
def scanR (l:List RowM) (p:SpanM) (most:Nat):List RowM:=(l.filter fun r=>inSpan p r.key).take most
theorem sIn_iff {k a b:ByteArray}:sIn k a b=true↔(sLt k a=false∧sLt b k=false):=by
 have hle:∀ x y:ByteArray,(sLt x y || sEq x y)=true↔sLt y x=false:=fun x y=>by
  rcases sLt_tri x y with h | h | h
  ·simp [h,sLt_asymm h]
  ·subst h;simp [sLt_irrefl,sEq_iff]
  ·simp [h,sLt_asymm h]
   cases e:sEq x y with
   | false=>rfl
   | true=>rw [sEq_iff.1 e,sLt_irrefl] at h;cases h
 unfold sIn
 rw [Bool.and_eq_true,hle,hle]
theorem sMax_iff (a b:ByteArray):sMax a b=if sLt a b then b else a:=by
 rcases sLt_tri a b with h | h | h
 ·simp [sMax,h]
 ·subst h;simp [sMax,sLt_irrefl]
 ·simp [sMax,h,sLt_asymm h]
theorem sLe_trans {a b c:ByteArray} (h:sLt b a=false) (h':sLt c b=false):sLt c a=false:=by
 cases e:sLt c a with
 | false=>rfl
 | true=>
  rcases sLt_tri b c with h1 | h1 | h1
  ·rw [sLt_trans h1 e] at h;cases h
  ·subst h1;rw [h] at e;cases e
  ·rw [h1] at h';cases h'
theorem meet_iff {a b:SpanM}:meet a b=true↔∃ k,inSpan a k=true∧inSpan b k=true:=by
 unfold meet inSpan
 rw [Bool.and_eq_true,sMax_iff]
 constructor
 ·rintro ⟨h1,h2⟩;exact ⟨_,h1,h2⟩
 ·rintro ⟨k,h1,h2⟩
  rw [sIn_iff] at h1 h2
  simp only [sIn_iff]
  split
  ·rename_i h
   exact ⟨⟨sLt_asymm h,sLe_trans h2.1 h1.2⟩,sLt_irrefl _,sLe_trans h2.1 h2.2⟩
  ·rename_i h
   simp only [Bool.not_eq_true] at h
   exact ⟨⟨sLt_irrefl _,sLe_trans h1.1 h1.2⟩,h,sLe_trans h1.1 h2.2⟩
theorem meet_one {k:ByteArray} {p:SpanM}:meet (one k) p=inSpan p k:=by
 rw [Bool.eq_iff_iff,meet_iff]
 unfold inSpan one
 constructor
 ·rintro ⟨j,h1,h2⟩
  rw [sIn_iff] at h1
  have:j=k:=by
   rcases sLt_tri j k with h | h | h
   ·rw [h1.1] at h;cases h
   ·exact h
   ·rw [h1.2] at h;cases h
  subst this;exact h2
 ·intro h;exact ⟨k,by rw [sIn_iff];exact ⟨sLt_irrefl _,sLt_irrefl _⟩,h⟩
theorem set_app {A D:List RowM} {x y:RowM} {n:Nat} (h:A.length=n):(A++x::D).set n y=A++y::D:=by subst h;simp
theorem scan_eq {l:List RowM} (hl:Rising l) (s:SpanM):(l.drop (lowI l s.a)).takeWhile (fun r=>!sLt s.b r.key)=l.filter fun r=>inSpan s r.key:=by
 obtain ⟨A,D,rfl,ha,h1,h2,h3,h4⟩:=key_split hl s.a
 rw [← ha,List.drop_left,List.filter_append]
 have e1:A.filter (fun r=>inSpan s r.key)=[]:=by
  rw [List.filter_eq_nil_iff]
  intro r hr h
  rw [inSpan,sIn_iff,h1 r hr] at h;cases h.1
 rw [e1,List.nil_append]
 clear ha e1 h1 hl h3
 induction D with
 | nil=>rfl
 | cons x D ih=>
  have hp:=List.pairwise_cons.1 h4
  have hx:=h2 x (by simp)
  rw [List.takeWhile_cons,List.filter_cons]
  cases e:sLt s.b x.key with
  | false=>
   have:inSpan s x.key=true:=by rw [inSpan,sIn_iff];exact ⟨hx,e⟩
   simp [this,ih (fun r hr=>h2 r (by simp [hr])) hp.2]
  | true=>
   have hn:inSpan s x.key=false:=by
    cases e2:inSpan s x.key with
    | false=>rfl
    | true=>rw [inSpan,sIn_iff,e] at e2;cases e2.2
   have:D.filter (fun r=>inSpan s r.key)=[]:=by
    rw [List.filter_eq_nil_iff]
    intro r hr h
    rw [inSpan,sIn_iff,sLt_trans e (hp.1 r hr)] at h;cases h.2
   simp [hn,this]
theorem meet_self {s:SpanM} {l:List RowM} (h:meet s s=false):l.filter (fun r=>inSpan s r.key)=[]:=by
 rw [List.filter_eq_nil_iff]
 intro r _ hr
 have:meet s s=true:=meet_iff.2 ⟨_,hr,hr⟩
 rw [h] at this;cases this
theorem has_at {l:List RowM} {k:ByteArray} (h:hasI l k=true):∃ u,l[lowI l k]?=some ⟨k,u⟩:=by
 unfold hasI at h
 cases e:l[lowI l k]? with
 | none=>rw [e] at h;cases h
 | some r=>rw [e] at h;have:=sEq_iff.1 h;subst this;exact ⟨r.val,rfl⟩
theorem has_lt {l:List RowM} {k:ByteArray} (h:hasI l k=true):lowI l k < l.length:=by obtain ⟨u,hu⟩:=has_at h;exact idx_lt hu
theorem changeR_snoc (l:List RowM) (cs:List ChgM) (c:ChgM):changeR l (cs++[c])=applyC (changeR l cs) c:=by simp [changeR]
theorem sgt_eq (a b:ByteArray):(!(sLt a b || sEq a b))=sLt b a:=by
 rcases sLt_tri a b with h | h | h
 ·simp [h,sLt_asymm h]
 ·subst h;simp [sLt_irrefl,sEq_iff]
 ·have:sEq a b=false:=by
   cases e:sEq a b with
   | false=>rfl
   | true=>rw [sEq_iff.1 e,sLt_irrefl] at h;cases h
  simp [h,sLt_asymm h,this]
end Go.SL
namespace Go.SL
open Go
theorem ins_cells {α:Type} {z o c:Nat} {enc:α→List Value} (he:EncOk z enc) {l:List Value} {A D:List α} {x:α} (hl:o+c * z≤l.length) (hc:(A++D).length+1≤c) (hcs:(l.drop o).take ((A++D).length * z)=(A++D).flatMap enc) :
    ((splice (splice l (o+(A.length+1) * z) (D.flatMap enc)) (o+A.length * z) (enc x)).drop o).take (((A++D).length+1) * z)=(A++x::D).flatMap enc ∧
    (splice (splice l (o+(A.length+1) * z) (D.flatMap enc)) (o+A.length * z) (enc x)).length=l.length∧(splice l (o+(A.length+1) * z) (D.flatMap enc)).length=l.length∧(l.drop (o+A.length * z)).take (D.length * z)=D.flatMap enc:=by
  have hm:((A++D).length+1) * z≤c * z:=Nat.mul_le_mul_right _ hc
  have hlP:(l.take o).length=o:=by simp;omega
  have el:l=l.take o++(A++D).flatMap enc++l.drop (o+(A++D).length * z):=by
    rw [← hcs,List.append_assoc]
    conv=>lhs;rw [← List.take_append_drop o l]
    congr 1
    rw [← List.drop_drop];exact (List.take_append_drop _ _).symm
  have hQ:(l.drop (o+(A++D).length * z)).length=l.length - (o+(A++D).length * z):=by simp
  generalize hP:l.take o=P at el hlP
  generalize l.drop (o+(A++D).length * z)=Q at el hQ
  have hfA:=flat_len he A
  have hfD:=flat_len he D
  have hfx:=he.len x
  rw [List.length_append] at hm hQ
  simp only [Nat.add_mul,Nat.one_mul] at hm hQ
  have hW:(D.flatMap enc++Q).length=D.length * z+Q.length:=by simp [hfD]
  have e1:l=(P++A.flatMap enc++(D.flatMap enc++Q).take z)++((D.flatMap enc++Q).drop z).take (D.flatMap enc).length++((D.flatMap enc++Q).drop z).drop (D.flatMap enc).length:=by
    rw [List.append_assoc _ (List.take _ (List.drop _ _)),List.take_append_drop,List.append_assoc _ (List.take z _),List.take_append_drop,el];simp
  have hU:(P++A.flatMap enc++(D.flatMap enc++Q).take z).length=o+(A.length+1) * z:=by
    simp only [List.length_append,List.length_take,hfA,hlP,hfD,Nat.add_mul,Nat.one_mul];omega
  have hV:(((D.flatMap enc++Q).drop z).take (D.flatMap enc).length).length=(D.flatMap enc).length:=by
    rw [List.length_take,List.length_drop,hW,hfD];omega
  have s1:splice l (o+(A.length+1) * z) (D.flatMap enc)=(P++A.flatMap enc++(D.flatMap enc++Q).take z)++D.flatMap enc++((D.flatMap enc++Q).drop z).drop (D.flatMap enc).length:=by
    conv=>lhs;rw [e1,← hU]
    rw [splice_mid _ _ _ _ hV.symm]
  have hU2:(P++A.flatMap enc).length=o+A.length * z:=by simp [hfA,hlP]
  have hV2:(enc x).length=((D.flatMap enc++Q).take z).length:=by rw [hfx,List.length_take,hW];omega
  have s2:splice (splice l (o+(A.length+1) * z) (D.flatMap enc)) (o+A.length * z) (enc x)=(P++A.flatMap enc)++enc x++(D.flatMap enc++((D.flatMap enc++Q).drop z).drop (D.flatMap enc).length):=by
    rw [s1,← hU2,List.append_assoc _ (D.flatMap enc),splice_mid _ _ _ _ hV2]
  have hlen:l.length=P.length+(A.length * z+D.length * z)+Q.length:=by
    conv=>lhs;rw [el]
    simp only [List.length_append,List.flatMap_append,hfA,hfD]
  have hX:(((D.flatMap enc++Q).drop z).drop (D.flatMap enc).length).length=Q.length - z:=by
    rw [List.length_drop,List.length_drop,hW,hfD];omega
  have hY:((D.flatMap enc++Q).take z).length=z:=by rw [List.length_take,hW];omega
  have hzQ:z≤Q.length:=by omega
  clear e1 hV hV2 hW
  generalize ((D.flatMap enc++Q).drop z).drop (D.flatMap enc).length=T at *
  generalize (D.flatMap enc++Q).take z=Y at *
  refine ⟨?_,?_,?_,?_⟩
  · rw [s2,show P++A.flatMap enc++enc x++(D.flatMap enc++T)=P++((A++x::D).flatMap enc++T) by simp]
    rw [← hlP,List.drop_left,show ((A++D).length+1) * z=((A++x::D).flatMap enc).length by rw [flat_len he];congr 1;simp;omega,List.take_left]
  · rw [s2,hlen];simp only [List.length_append,hX,hfA,hfD,hfx];omega
  · rw [s1,hlen];simp only [List.length_append,hX,hY,hfA,hfD];omega
  · conv=>lhs;rw [el]
    rw [List.flatMap_append,← List.append_assoc,List.append_assoc _ (D.flatMap enc),← hU2,List.drop_left,← hfD,List.take_left]
theorem over_ins {α:Type} (A D:List α) (x z0:α):over (over (A++List.replicate (D.length+1) z0) A.length [x]) (A.length+1) D=A++x::D:=by
  rw [over_eq A _ [x] A.length rfl (by simp)]
  rw [over_eq (A++[x]) _ D (A.length+1) (by simp) (by simp)]
  simp
theorem flat_setF {α:Type} {z:Nat} {enc:α→List Value} (he:EncOk z enc) {xs:List α} {j f:Nat} {a a':α} {b:Value} (hx:xs[j]?=some a) (hf:f < z) (hb:enc a'=(enc a).set f b):splice (xs.flatMap enc) (j * z+f) [b]=(xs.set j a').flatMap enc:=by
  have hj:=idx_lt hx
  have hle:(j+1) * z≤xs.length * z:=Nat.mul_le_mul_right z hj
  rw [Nat.add_mul,Nat.one_mul] at hle
  rw [← flat_set he xs j a' hj]
  apply List.ext_getElem?
  intro i
  rw [splice_get _ _ _ (by rw [flat_len he];simp;omega),splice_get _ _ _ (by rw [flat_len he,he.len];omega),he.len,hb]
  simp only [List.length_cons,List.length_nil]
  by_cases h1:i < j * z
  · simp [h1,show i < j * z+f by omega]
  · simp only [h1,if_false]
    by_cases h2:i < j * z+z
    · simp only [h2,if_true]
      rw [List.getElem?_set]
      have hget:(xs.flatMap enc)[i]?=(enc a)[i - j * z]?:=by
        have:=flat_at he hx (i - j * z) (by omega)
        rwa [show j * z+(i - j * z)=i by omega] at this
      by_cases h3:f=i - j * z
      · have:i=j * z+f:=by omega
        subst this
        simp [he.len,hf]
      · simp only [h3,if_false]
        by_cases h4:i < j * z+f
        · simp [h4,hget]
        · simp [h4,show ¬ i < j * z+f+1 by omega,hget]
    · simp only [h2,if_false]
      simp [show ¬ i < j * z+f by omega,show ¬ i < j * z+f+1 by omega]
theorem tw_stop {α:Type} {p:α→Bool}:∀ {D:List α} {k:Nat} {x:α},(∀ r ∈ D.take k,p r=true)→D[k]?=some x→p x=false→D.takeWhile p=D.take k
  | [],_,_,_,hx,_=>by simp at hx
  | a::D,0,x,_,hx,hp=>by simp at hx;subst hx;simp [List.takeWhile_cons,hp]
  | a::D,k+1,x,h,hx,hp=>by
    simp only [List.take_succ_cons,List.mem_cons] at h
    simp only [List.take_succ_cons,List.takeWhile_cons,h a (.inl rfl),if_true]
    rw [tw_stop (fun r hr=>h r (.inr hr)) (by simpa using hx) hp]
theorem tw_all {α:Type} {p:α→Bool} {D:List α} (h:∀ r ∈ D,p r=true):D.takeWhile p=D:=by
  induction D with
  | nil=>rfl
  | cons a D ih=>simp [List.takeWhile_cons,h a (by simp),ih (fun r hr=>h r (by simp [hr]))]
theorem tw_more {α:Type} {p:α→Bool}:∀ {D:List α} {k:Nat} {x:α},(∀ r ∈ D.take k,p r=true)→D[k]?=some x→p x=true→D.take k++[x] <+: D.takeWhile p
  | [],_,_,_,hx,_=>by simp at hx
  | a::D,0,x,_,hx,hp=>by simp at hx;subst hx;simp [List.takeWhile_cons,hp]
  | a::D,k+1,x,h,hx,hp=>by
    simp only [List.take_succ_cons,List.mem_cons] at h
    simp only [List.take_succ_cons,List.takeWhile_cons,h a (.inl rfl),if_true,List.cons_append]
    rw [List.cons_prefix_cons]
    exact ⟨rfl,tw_more (fun r hr=>h r (.inr hr)) (by simpa using hx) hp⟩
end Go.SL

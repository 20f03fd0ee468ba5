import Derived.Test.YtdfomffmfnpfoaaGreatDoorQA6
set_option linter.unusedSimpArgs false
set_option linter.unusedVariables false
namespace Go.SL.Fc
open Go Go.Proofs Go.SL
theorem a25:aggOf Tryz.prog 25=some none:=by kernel_rfl
theorem a3:aggOf Tryz.prog 3=some none:=by kernel_rfl
theorem a83:aggOf Tryz.prog 83=some none:=by kernel_rfl
theorem a84:aggOf Tryz.prog 84=some none:=by kernel_rfl
theorem f154_0:fldOf Tryz.prog 154 0=some 0:=by kernel_rfl
theorem f154_1:fldOf Tryz.prog 154 1=some 1:=by kernel_rfl
theorem f156_0:fldOf Tryz.prog 156 0=some 0:=by kernel_rfl
theorem k107:callable Tryz.prog 107=true:=by kernel_rfl
theorem k108:callable Tryz.prog 108=true:=by kernel_rfl
theorem k109:callable Tryz.prog 109=true:=by kernel_rfl
theorem k110:callable Tryz.prog 110=true:=by kernel_rfl
theorem k111:callable Tryz.prog 111=true:=by kernel_rfl
theorem k130:callable Tryz.prog 130=true:=by kernel_rfl
theorem k132:callable Tryz.prog 132=true:=by kernel_rfl
theorem k176:callable Tryz.prog 176=true:=by kernel_rfl
theorem k177:callable Tryz.prog 177=true:=by kernel_rfl
theorem p154:placesOf Tryz.prog 154=some [(0,1),(1,1)]:=by kernel_rfl
theorem p156:placesOf Tryz.prog 156=some [(0,2)]:=by kernel_rfl
theorem pt83:isPtr Tryz.prog 83=true:=by kernel_rfl
theorem s3:szOf Tryz.prog 3=some 1:=by kernel_rfl
theorem s83:szOf Tryz.prog 83=some 1:=by kernel_rfl
theorem s84:szOf Tryz.prog 84=some 1:=by kernel_rfl
theorem sl84:slOf Tryz.prog 84=some (94,1,24):=by kernel_rfl
theorem z154:zeroOf Tryz.prog 154=some [.pointer none,.int .i64 0]:=by kernel_rfl
theorem z156:zeroOf Tryz.prog 156=some [.pointer none,.int .i64 0]:=by kernel_rfl
theorem z83:zeroOf Tryz.prog 83=some [.pointer none]:=by kernel_rfl
theorem z84:zeroOf Tryz.prog 84=some [.slice none 0 0]:=by kernel_rfl
end Go.SL.Fc
namespace Go.SL
open Go Go.Proofs Fc
theorem there_spec {g:World} {l p i:Nat}:Spec Tryz.prog g 130 [.pointer (some ⟨l,0,none⟩)] [cl l 156 [.pointer (some ⟨p,0,none⟩),.int .i64 i]] fun K R=>K (.bool true) (cl l 156 [.pointer (some ⟨p,0,none⟩),.int .i64 i]::R):=by
 refine Spec.intro Tryz.func130 rfl Tryz.ntmps130 rfl fun R K hK=>?_
 refine WP.seq<|WP.reg<|WL.e e_assign<|WL.next<|WP.seq<|WP.reg<|WL.e e_move<|WL.e (e_pne pt83)<|WL.e e_move ?_
 refine WL.bool 5 rfl (fun h=>?_) (fun h=>?_)
 ·skip
  refine WL.e e_move<|WL.e e_nil<|WL.e (e_fa f156_0)<|WL.e (e_fa f154_0)<|WL.e (e_load a25)<|WL.e (e_pne pt25)<|WL.e e_pick_t<|WL.e e_assign<|WL.next<|WP.ret ?_
  exact PO.fin Tryz.results130 (rv_tmp rv_nil) hK
 ·cases h 
theorem left_spec {g:World} {l p i:Nat} {d:DiskM} (hi:i≤d.sure.length) (hl:d.sure.length≤4096):Spec Tryz.prog g 132 [.pointer (some ⟨l,0,none⟩)] [cl l 156 [.pointer (some ⟨p,0,none⟩),.int .i64 i],Dk p d] fun K R=>K (.int .i64 (d.sure.length - i:Nat)) (cl l 156 [.pointer (some ⟨p,0,none⟩),.int .i64 i]::Dk p d::R):=by
 refine Spec.intro Tryz.func132 rfl Tryz.ntmps132 rfl fun R K hK=>?_
 refine WP.seq<|WP.reg<|WL.e e_assign<|WL.next<|WP.seq<|WP.draws mixedOk 11<|RW.e 0 rfl e_move<|RW.e 1 rfl e_nil<|RW.e 2 rfl (e_fa f154_0)<|RW.e 3 rfl (e_load a25)<|RW.e 5 rfl e_move<|RW.e 6 rfl e_nil<|RW.e 7 rfl (e_fa f154_1)<|RW.e 8 rfl (e_load a3) ?_
 refine RW.any (is:=[4]) rfl ⟨?_,trivial⟩
 refine RWat.h rfl rfl rfl ?_
 refine (h_call (Size_spec) k49 ?_)
 refine ⟨⟨⟨_,rfl,.inl ⟨rfl,(e_load a3)⟩⟩,⟨_,rfl,.inl ⟨rfl,(e_fa f154_1)⟩⟩,⟨_,rfl,.inl ⟨rfl,e_nil⟩⟩,⟨_,rfl,.inl ⟨rfl,e_move⟩⟩,trivial⟩,?_⟩
 refine RW.e 9 rfl (e_sub (c:=((d.sure.length - i:Nat):Int)) rfl rfl (by rw [w_i64 (by omega) (by omega)];omega))<|RW.e 10 rfl e_assign<|RW.done<|PO.next<|WP.ret ?_
 exact PO.fin Tryz.results132 (rv_tmp rv_nil) hK
theorem Force_spec {g:World} {l p i:Nat} {d:DiskM} (hd:d.ok):Spec Tryz.prog g 45 [.pointer (some ⟨l,0,none⟩)] [cl l 156 [.pointer (some ⟨p,0,none⟩),.int .i64 i],Dk p d] fun K R=>K (.int .i64 0) (cl l 156 [.pointer (some ⟨p,0,none⟩),.int .i64 i]::Dk p d.sync::R):=by
 refine Spec.intro Tryz.func45 rfl Tryz.ntmps45 rfl fun R K hK=>?_
 refine WP.seq<|WP.reg<|WL.e e_assign<|WL.next<|WP.seq<|WP.seq<|WP.reg<|WL.e e_move ?_
 refine WL.h (h_call (there_spec) k130 ?_)
 refine WL.e e_not<|WL.next<|WP.cond_f rfl<|WP.skip<|PO.next<|WP.seq<|WP.reg<|WL.e e_move<|WL.e e_nil<|WL.e (e_fa f156_0)<|WL.e (e_fa f154_0)<|WL.e (e_load a25) ?_
 refine WL.h (h_call (Sync_spec hd.pos hd.len) k111 ?_)
 refine WL.e e_assign<|WL.next<|WP.ret ?_
 exact PO.fin Tryz.results45 (rv_tmp rv_nil) hK
theorem Add_spec {g:World} {A:HP} {l p i:Nat} {d:DiskM} {u:Value} {b:List UInt8} (hA:RL A 1 eB u b) (hd:d.ok) (hi:i≤d.sure.length) (hw:d.waits.length < 4000000000) :
  Spec Tryz.prog g 43 [.pointer (some ⟨l,0,none⟩),u] [cl l 156 [.pointer (some ⟨p,0,none⟩),.int .i64 i],Dk p d,A] fun K R=>(16384 < b.length→K (.int .i64 3) (cl l 156 [.pointer (some ⟨p,0,none⟩),.int .i64 i]::Dk p d::A::R))∧(b.length≤16384→d.sure.length < i+secs b.length→K (.int .i64 5) (cl l 156 [.pointer (some ⟨p,0,none⟩),.int .i64 i]::Dk p d::A::R)) ∧
   (b.length≤16384→i+secs b.length≤d.sure.length→K (.int .i64 0) (cl l 156 [.pointer (some ⟨p,0,none⟩),.int .i64 (i+secs b.length:Nat)]::Dk p (addW d i (frame b) (secs b.length))::A::R)):=by
 refine Spec.intro Tryz.func43 rfl Tryz.ntmps43 rfl fun R K hK=>?_
 refine WP.seq<|WP.reg<|WL.e e_assign<|WL.next<|WP.seq<|WP.seq<|WP.reg<|WL.e e_move ?_
 refine WL.h (h_call (there_spec) k130 ?_)
 refine WL.e e_not<|WL.next<|WP.cond_f rfl<|WP.skip<|PO.next<|WP.seq<|WP.reg<|WL.e e_move ?_
 refine WL.h (h_call (Put_spec hA) k131 ?_)
 refine ⟨fun h1=>?_,fun h1 a1 n1 c1=>?_⟩
 ·skip
  refine WL.e e_move<|WL.e e_extract<|WL.e e_extract<|WL.e e_assign<|WL.e e_assign<|WL.next<|WP.seq<|WP.block<|WP.seq<|WP.reg<|WL.e e_move<|WL.e e_neq<|WL.e e_assign<|WL.next<|WP.cond_t rfl<|WP.seq<|WP.reg<|WL.e e_move<|WL.e e_assign<|WL.next<|WP.ret<|PO.blockR<|PO.past nofun ?_
  exact PO.fin Tryz.results43 (rv_tmp rv_nil) (hK.1 h1)
 ·have hdl:=hd.le
  have hs1:=secs_le b.length
  have hs2:=secs_ub b.length
  refine WL.e e_move<|WL.e e_extract<|WL.e e_extract<|WL.e e_assign<|WL.e e_assign<|WL.next<|WP.seq<|WP.block<|WP.seq<|WP.reg<|WL.e e_move<|WL.e e_neq<|WL.e e_assign<|WL.next<|WP.cond_f rfl<|WP.seq<|WP.reg<|WL.e e_move<|WL.e (el_len (xs:=frame b) sl94 sl_rl)<|WL.e e_move<|WL.e e_nil<|WL.e (e_fa f156_0) ?_
  refine WL.h (h_call (left_spec (d:=d) hi hd.le) k132 ?_)
  refine WL.e (e_mul (c:=(((d.sure.length - i) * 64:Nat):Int)) rfl rfl (by rw [w_i64 (by omega) (by omega)];omega))<|WL.e e_gtr<|WL.e e_assign<|WL.next ?_
  refine WP.cond rfl (fun h2=>?_) (fun h2=>?_)
  ·replace h2:d.sure.length < i+secs b.length:=by rw [decide_eq_true_eq,frame_len] at h2;omega
   refine WP.seq<|WP.reg<|WL.e e_assign<|WL.next<|WP.ret<|PO.blockR<|PO.past nofun ?_
   exact PO.fin Tryz.results43 (rv_tmp rv_nil) (hK.2.1 h1 h2)
  ·replace h2:i+secs b.length≤d.sure.length:=by rw [decide_eq_false_iff_not,frame_len] at h2;omega
   refine WP.skip<|PO.blockN<|PO.next<|WP.seq<|WP.block<|WP.loopK (fun (x:Value × List UInt8 × Nat × Nat × DiskM)=>[(5,x.1)]) (fun (x:Value × List UInt8 × Nat × Nat × DiskM)=>cl l 156 [.pointer (some ⟨p,0,none⟩),.int .i64 x.2.2.2.1]::Dk p x.2.2.2.2::Sl 5 1 eB (.slice a1 n1 c1) (frame b)::A::R) [(0,_),(4,_)] (fun (x:Value × List UInt8 × Nat × Nat × DiskM)=>RL (Sl 5 1 eB (.slice a1 n1 c1) (frame b)) 1 eB x.1 x.2.1∧x.2.1.length=x.2.2.1 * 64∧addW x.2.2.2.2 x.2.2.2.1 x.2.1 x.2.2.1=addW d i (frame b) (secs b.length)∧x.2.2.2.1+x.2.2.1=i+secs b.length∧x.2.2.2.2.ok∧x.2.2.2.2.sure=d.sure∧x.2.2.2.2.waits.length+x.2.2.1=d.waits.length+secs b.length) (fun (x:Value × List UInt8 × Nat × Nat × DiskM)=>x.2.2.1) (.slice a1 n1 c1,frame b,secs b.length,i,d) (⟨sl_rl,frame_len b,rfl,rfl,hd,rfl,rfl⟩) ?_
   rintro ⟨w,bs,k,j,e⟩ ⟨hr,hl,he,hj,hok,hsu,hwt⟩
   simp only at hr hl he hj hok hsu hwt
   dsimp only
   refine WP.seq<|WP.seq<|WP.reg<|WL.e e_move<|WL.e (el_len sl94 hr)<|WL.e e_gtr<|WL.next ?_
   refine WP.cond rfl (fun h3=>?_) (fun h3=>?_)
   ·obtain ⟨m,rfl⟩:∃ m,k=m+1:=⟨k - 1,by rw [decide_eq_true_eq] at h3;omega⟩
    refine WP.skip<|PO.next<|WP.seq<|WP.block<|WP.seq<|WP.draws mixedOk 13<|RW.e 0 rfl e_move<|RW.e 1 rfl e_nil<|RW.e 2 rfl (e_fa f156_0)<|RW.e 3 rfl (e_fa f154_0)<|RW.e 4 rfl (e_load a25)<|RW.e 5 rfl e_move<|RW.e 6 rfl e_nil<|RW.e 7 rfl (e_fa f156_0)<|RW.e 8 rfl (e_fa f154_1)<|RW.e 9 rfl (e_load a3)<|RW.e 10 rfl e_move<|RW.e 11 rfl (el_to (hi:=64) sl94 hr (by omega)) ?_
    refine RW.any (is:=[12]) rfl ⟨?_,trivial⟩
    refine RWat.h rfl rfl rfl ?_
    refine (h_call (Write_spec (d:=e) (b:=bs.take 64) j (RL.to_ (hi:=64) eB_ok hr (by omega)) (by rw [hsu];omega) hok.len hok.le (by simp;omega) (by omega)) k110 ?_)
    refine ⟨trivial,?_⟩
    refine RW.done<|PO.next<|WP.reg<|WL.e e_move<|WL.e e_nil<|WL.e (e_fa f156_0)<|WL.e (e_fa f154_1)<|WL.e (e_load a3)<|WL.e (e_add (c:=((j+1:Nat):Int)) rfl rfl (by rw [w_i64 (by omega) (by omega)];omega))<|WL.e e_nil<|WL.e (e_fa f156_0)<|WL.e (e_fa f154_1) ?_
    refine WL.h' (h_store s3 ?_)
    refine WL.nil<|PO.blockN<|PO.next<|WP.reg<|WL.e e_move<|WL.e (el_from (lo:=64) sl94 hr (by omega))<|WL.e e_assign<|WL.nil ?_
    exact PO.againK (subV w 64 bs.length none 1,bs.drop 64,m,j+1,e.write j (bs.take 64)) ⟨RL.from_ eB_ok hr (by omega),by simp;omega,he,by simp only;omega,hok.write _ _,hsu,by simp [DiskM.write];omega⟩ (by simp only;omega)
   ·obtain rfl:k=0:=by rw [decide_eq_false_iff_not] at h3;omega
    obtain rfl:j=i+secs b.length:=by omega
    simp only [addW] at he
    subst he
    refine WP.exit<|PO.past nofun<|PO.round nofun<|PO.blockX<|PO.next<|WP.seq<|WP.reg<|WL.e e_assign<|WL.next<|WP.ret ?_
    exact PO.fin Tryz.results43 (rv_tmp rv_nil) (hK.2.2 h1 h2)
abbrev RecV:=SV × List UInt8 × Nat
def recE (x:RecV):List Value:=[x.1.v,.int .i64 x.2.2]
def recR (x:RecV):HP:=Sl 5 1 eB x.1.v x.2.1
theorem found_iter {g:World} {A:HP} {c1:Nat} {w:SV} {b:List UInt8} (hA:RL A 1 eB w.v b) (hb:b.length≤68719476736) :
  Iter Tryz.prog g 176 (fun y=>[]++[y]++[.pointer (some ⟨c1,0,none⟩)]) [cl c1 94 [w.v],A] recE recR (fun xs=>xs.map (·.2)=recs b) (fun pre=>pre.map (·.2) <+: recs b) [A]:=by
 intro y J X cont hy
 refine Spec.intro Tryz.func176 rfl Tryz.ntmps176 rfl fun R K hK=>?_
 refine WP.block<|WP.loopK (fun (x:SV × List UInt8 × List RecV)=>[]) (fun (x:SV × List UInt8 × List RecV)=>J x.2.2::cl c1 94 [x.1.v]::A::R) [(0,_),(1,_)] (fun (x:SV × List UInt8 × List RecV)=>RL A 1 eB x.1.v x.2.1∧x.2.1.length≤b.length∧x.2.2.map (·.2)++recs x.2.1=recs b∧Hist cont x.2.2) (fun (x:SV × List UInt8 × List RecV)=>x.2.1.length) (w,b,[]) (⟨hA,Nat.le_refl _,rfl,Hist.nil⟩) ?_
 rintro ⟨w1,b1,pre⟩ ⟨hr,hl,he,hh⟩
 simp only at hr hl he hh
 dsimp only
 refine WP.block<|WP.seq<|WP.reg<|WL.e (e_load a94) ?_
 refine WL.h (h_call (Get_spec hr (by omega)) k177 ?_)
 refine ⟨fun hg=>?_,fun r m hg a2 n2 c2=>?_⟩
 ·skip
  refine WL.e e_move<|WL.e e_extract<|WL.e e_extract<|WL.e e_extract<|WL.e e_assign<|WL.e e_assign<|WL.e e_assign<|WL.next<|WP.seq<|WP.seq<|WP.reg<|WL.e e_move<|WL.e e_neq<|WL.e e_move ?_
  refine WL.bool 14 rfl (fun h=>?_) (fun h=>?_)
  ·skip
   refine WL.skip<|WL.skip<|WL.skip<|WL.skip<|WL.skip<|WL.e e_pick_t<|WL.next<|WP.cond_t rfl<|WP.ret<|PO.past nofun<|PO.blockR<|PO.round nofun<|PO.blockR ?_
   exact PO.fin Tryz.results176 rv_nil (hK.1 pre (by rw [← he,recs_none hg];simp) hh)
  ·simp at h 
 ·have hm:=getF_some hg
  have hpf:(pre++[((⟨a2,n2,c2⟩,r,m):RecV)]).map (·.2) <+: recs b:=by rw [← he,recs_some hg];simp
  refine WL.e e_move<|WL.e e_extract<|WL.e e_extract<|WL.e e_extract<|WL.e e_assign<|WL.e e_assign<|WL.e e_assign<|WL.next<|WP.seq<|WP.seq<|WP.reg<|WL.e e_move<|WL.e e_neq<|WL.e e_move ?_
  refine WL.bool 14 rfl (fun h=>?_) (fun h=>?_)
  ·simp at h 
  ·skip
   refine WL.e e_move<|WL.e e_move<|WL.e e_move ?_
   refine WL.h (h_cally (hy pre (⟨a2,n2,c2⟩,r,m) hpf hh) ?_)
   refine ⟨fun hc=>?_,fun hc=>?_⟩
   ·skip
    refine WL.e e_not<|WL.e e_pick_f<|WL.next<|WP.cond_f rfl<|WP.skip<|PO.next<|WP.reg<|WL.e (e_load a94)<|WL.e e_move<|WL.e (e_mul (c:=((m * 64:Nat):Int)) rfl rfl (by rw [w_i64 (by omega) (by omega)];omega))<|WL.e (el_from (lo:=m * 64) sl94 hr hm.2.1) ?_
    refine WL.h' (h_store s94 ?_)
    refine WL.nil<|PO.blockN ?_
    exact PO.againK (subS w1 (m * 64) b1.length 1,b1.drop (m * 64),pre++[(⟨a2,n2,c2⟩,r,m)]) ⟨by rw [subS_eq];exact RL.from_ eB_ok hr hm.2.1,by simp;omega,by rw [← he,recs_some hg];simp,hh.snoc hc⟩ (by simp;omega)
   ·skip
    refine WL.e e_not<|WL.e e_pick_f<|WL.next<|WP.cond_t rfl<|WP.ret<|PO.past nofun<|PO.blockR<|PO.round nofun<|PO.blockR ?_
    exact PO.fin Tryz.results176 rv_nil (hK.2 pre (⟨a2,n2,c2⟩,r,m) hpf hh hc)
theorem found_spec {g:World} {w:SV}:Spec Tryz.prog g 108 [w.v] [] fun K R=>∀ c1,K (.func (.func 176) #[] #[.pointer (some ⟨c1,0,none⟩)]) (cl c1 94 [w.v]::R):=by
 refine Spec.intro Tryz.func108 rfl Tryz.ntmps108 rfl fun R K hK=>?_
 refine WP.seq<|WP.reg ?_
 refine WL.h (h_box fun b1=>?_)
 refine WL.e e_assign<|WL.next<|WP.seq<|WP.reg<|WL.e e_makeFunc<|WL.e e_assign<|WL.next<|WP.ret ?_
 exact PO.fin Tryz.results108 (rv_tmp rv_nil) (hK b1)
def recC (x:RecV):List Value:=[x.1.v]
theorem recCE:EncOk 1 recC:=⟨fun _=>rfl,fun _=>rfl⟩
def RecsR (l:List RecV):HP:=bun (l.map recR)
theorem RecsR_snoc {l:List RecV} {x:RecV}:∀ S,stars [RecsR l,recR x] S→RecsR (l++[x]) S:=fun S h=>by
 have:=stars_bun h
 unfold RecsR bun
 rwa [List.map_append]
theorem RecsR_nil {L:List HP} {S:Piece} (h:stars L S):stars (RecsR []::L) S:=bun_stars (L:=[]) h
def tot (l:List RecV):Nat:=(l.map (·.2.2)).sum
def OpJ (b2 bl b3 p:Nat) (pre:List RecV):HP:=fun S=>∃ sv:SV,stars [cl b2 83 [.pointer (some ⟨bl,0,none⟩)],cl bl 156 [.pointer (some ⟨p,0,none⟩),.int .i64 (tot pre)],cl b3 84 [sv.v],Sl 94 1 recC sv.v pre,RecsR pre] S
theorem tot_le {all:List UInt8} {pre:List RecV} (h:pre.map (·.2) <+: recs all):tot pre * 64≤all.length∧pre.length * 64≤all.length:=by
 obtain ⟨t,ht⟩:=h
 have h1:=recs_le _ all (Nat.le_refl _)
 rw [← ht] at h1
 simp only [List.map_append,List.sum_append,List.length_append,List.length_map,List.map_map] at h1
 have e:(pre.map ((fun x=>x.2)∘fun x=>x.2)).sum=tot pre:=rfl
 rw [e] at h1
 omega
theorem tot_snoc (pre:List RecV) (x:RecV):tot (pre++[x])=tot pre+x.2.2:=by simp [tot]
theorem Open_spec {g:World} {p:Nat} {d:DiskM} (hd:d.ok) (hw:d.waits.length < 4000000000):Spec Tryz.prog g 33 [.pointer (some ⟨p,0,none⟩)] [Dk p d] fun K R=>∀ (l:Nat) (sv:SV) (xs:List RecV),xs.map (·.2)=recs d.seen.flatten→K (.tuple #[.pointer (some ⟨l,0,none⟩),sv.v,.int .i64 0]) (cl l 156 [.pointer (some ⟨p,0,none⟩),.int .i64 (tot xs)]::Sl 94 1 recC sv.v xs::RecsR xs::Dk p (cleanTo d.seen.flatten d (tot xs) (d.sure.length - tot xs)).sync::R):=by
 refine Spec.intro Tryz.func33 rfl Tryz.ntmps33 rfl fun R K hK=>?_
 refine WP.seq<|WP.reg ?_
 refine WL.h (h_alloc z83 fun b1=>?_)
 refine WL.h (h_alloc z84 fun b2=>?_)
 refine WL.e e_assign<|WL.next<|WP.seq<|WP.seq<|WP.reg<|WL.e e_move ?_
 refine WL.h (h_call (Size_spec) k49 ?_)
 refine WL.e e_eql<|WL.next ?_
 refine WP.cond rfl (fun h=>?_) (fun h=>?_)
 ·rw [beq_iff_eq] at h;have:=hd.pos;omega
 ·have hle:=hd.le
  have hlen:=hd.len
  refine WP.skip<|PO.next<|WP.seq<|WP.reg<|WL.e e_assign<|WL.next<|WP.seq<|WP.seq<|WP.reg<|WL.e e_move ?_
  refine WL.h (h_call (Size_spec) k49 ?_)
  refine WL.e e_move<|WL.next<|WP.block<|WP.nils 5 1 eB none ?_
  refine WP.loopK (fun (x:Nat × Value)=>[(18,.int .i64 x.1),(5,x.2)]) (fun (x:Nat × Value)=>Sl 5 1 eB x.2 (d.seen.take x.1).flatten::cl b1 83 [.pointer none]::cl b2 84 [.slice none 0 0]::Dk p d::R) [(0,_),(2,_),(3,_),(4,_),(17,_)] (fun (x:Nat × Value)=>x.1≤d.sure.length) (fun (x:Nat × Value)=>d.sure.length - x.1) (0,.slice none 0 0) (Nat.zero_le _) ?_
  rintro ⟨i,u5⟩ hx1
  simp only at hx1
  dsimp only
  refine WP.seq<|WP.reg<|WL.e e_lss<|WL.next<|WP.seq ?_
  refine WP.cond rfl (fun h2=>?_) (fun h2=>?_)
  ·have hlt:i < d.sure.length:=by rw [decide_eq_true_eq] at h2;omega
   obtain ⟨q,hq⟩:∃ q,d.seen[i]?=some q:=⟨_,List.getElem?_eq_getElem (by omega)⟩
   have hq64:=hd.l2 q (List.mem_of_getElem? hq)
   have hfl:(d.seen.take i).flatten.length=i * 64:=by rw [flat_seen (fun p hp=>hd.l2 p (List.mem_of_mem_take hp))];simp;omega
   refine WP.skip<|PO.next<|WP.seq<|WP.block<|WP.seq<|WP.reg<|WL.e e_move<|WL.e e_assign<|WL.next<|WP.seq<|WP.reg<|WL.e e_move<|WL.e e_move ?_
   refine WL.h (h_call (Read_spec i q hlt hq hq64) k107 ?_)
   intro a4 n4 c4
   refine WL.e e_move<|WL.e e_extract<|WL.e e_extract<|WL.e e_assign<|WL.e e_assign<|WL.next<|WP.reg<|WL.e e_move<|WL.e e_move ?_
   refine WL.h (hl_append (xs:=(d.seen.take i).flatten) (ys:=q) sl94 eB_ok z5 sl_rl (by omega) (fun a6 n6 c6=>?_))
   rw [show (d.seen.take i).flatten++q=(d.seen.take (i+1)).flatten by rw [take_snoc hq];simp]
   refine WL.e e_assign<|WL.nil<|PO.blockN<|PO.next<|WP.reg<|WL.e (e_add rfl rfl (w_i64 (by omega) (by omega)))<|WL.e e_move<|WL.nil ?_
   exact PO.againK (i+1,.slice a6 n6 c6) (by simp only;omega) (by simp only;omega)
  ·rw [List.take_of_length_le (show d.seen.length≤i by rw [decide_eq_false_iff_not] at h2;omega)]
   have hall:d.seen.flatten.length=d.sure.length * 64:=by rw [flat_seen hd.l2,hlen]
   refine WP.sh (u:=u5) ?_
   rintro a5 n5 c5 rfl
   refine WP.exit<|PO.past nofun<|PO.round nofun<|PO.blockX<|PO.next<|WP.seq<|WP.reg<|WL.e e_move<|WL.e (e_build z154 p154 (.o (.tmp 31) rfl<|.z (.int .i64 0)<|.n))<|WL.e (e_build z156 p156 (.a2 (.tmp 32) rfl<|.n)) ?_
   refine WL.h (h_box fun b3=>?_)
   refine WL.h' (h_store s83 ?_)
   refine WL.next<|WP.seq<|WP.seq<|WP.reg<|WL.e e_move ?_
   refine WL.h (h_call (found_spec (w:=⟨a5,n5,c5⟩)) k108 ?_)
   intro c1
   refine WL.next<|WP.block<|WP.nils 94 1 recC none ?_
   refine WP.conv (fun S h=>RecsR_nil h) ?_
   refine WP.cls (A:=OpJ b1 b3 b2 p []) (B:=[cl b1 83 [.pointer (some ⟨b3,0,none⟩)],cl b3 156 [.pointer (some ⟨p,0,none⟩),.int .i64 (tot ([]))],cl b2 84 [.slice none 0 0],Sl 94 1 recC (.slice none 0 0) ([]),RecsR ([])]) (fun S h=>⟨⟨none,0,0⟩,h⟩) ?_
   refine WP.range (R:=?RR) (f:=176) (fs:=[]) (cs:=[.pointer (some ⟨c1,0,none⟩)]) (OpJ b1 b3 b2 p) (fun _ _ _=>pu True) (fun _ _=>True) (found_iter (A:=Sl 5 1 eB (.slice a5 n5 c5) d.seen.flatten) (w:=⟨a5,n5,c5⟩) (b:=d.seen.flatten) sl_rl (by omega)) k176 ?hLL ?_ ?_ ?_ (fun _=>rfl)
   case hLL=>repeat first | exact .nil | exact Pick.z | apply Pick.s | apply Split.cons
   ·rintro lb db fn tmps pre ⟨⟨a7,n7,c7⟩,r,m⟩ R2 hp hh
    have htl:=tot_le hp
    rw [tot_snoc,List.length_append] at htl
    simp only [List.length_cons,List.length_nil] at htl
    refine WP.opn (B:=fun sv:SV=>[cl b1 83 [.pointer (some ⟨b3,0,none⟩)],cl b3 156 [.pointer (some ⟨p,0,none⟩),.int .i64 (tot (pre))],cl b2 84 [sv.v],Sl 94 1 recC (sv.v) (pre),RecsR (pre)]) (fun _ h=>h) fun sv=>?_
    refine WP.seq<|WP.reg<|WL.e e_assign<|WL.next<|WP.reg<|WL.e e_assign<|WL.nil<|PO.asg rfl (by repeat first | exact .z | apply Put.s)<|WP.block<|WP.seq<|WP.reg<|WL.e (e_load a84)<|WL.e e_move ?_
    refine WL.h (h_bs sl84 z94 (.o (.tmp 40) rfl<|.n) fun b4=>?_)
    refine WL.h (hl_append (xs:=pre) (ys:=[((⟨a7,n7,c7⟩,r,m):RecV)]) sl84 recCE z94 (lit_rl recCE [((⟨a7,n7,c7⟩,r,m):RecV)] rfl) (by simp;omega) (fun a8 n8 c8=>?_))
    refine WL.h' (h_store s84 ?_)
    refine WL.next<|WP.reg<|WL.e (e_load a83)<|WL.e e_nil<|WL.e (e_fa f156_0)<|WL.e (e_fa f154_1)<|WL.e (e_load a3)<|WL.e e_move<|WL.e (e_add (c:=((tot (pre++[((⟨a7,n7,c7⟩,r,m):RecV)]):Nat):Int)) rfl rfl (by rw [tot_snoc];simp only;rw [w_i64 (by omega) (by omega)];omega))<|WL.e e_nil<|WL.e (e_fa f156_0)<|WL.e (e_fa f154_1) ?_
    refine WL.h' (h_store s3 ?_)
    refine WL.nil<|PO.blockN<|PO.cls (B:=[RecsR pre,recR (⟨a7,n7,c7⟩,r,m)]) RecsR_snoc ?_
    refine PO.cls (A:=OpJ b1 b3 b2 p (pre++[((⟨a7,n7,c7⟩,r,m):RecV)])) (B:=[cl b1 83 [.pointer (some ⟨b3,0,none⟩)],cl b3 156 [.pointer (some ⟨p,0,none⟩),.int .i64 (tot (pre++[((⟨a7,n7,c7⟩,r,m):RecV)]))],cl b2 84 [.slice a8 n8 c8],Sl 94 1 recC (.slice a8 n8 c8) (pre++[((⟨a7,n7,c7⟩,r,m):RecV)]),RecsR (pre++[((⟨a7,n7,c7⟩,r,m):RecV)])]) (fun S h=>⟨⟨a8,n8,c8⟩,h⟩) ?_
    exact PO.rnd trivial (by repeat first | exact .refl | exact Pick.z | apply Pick.s | apply Sub.cons | apply Sub.drop)
   ·intro db xs hx hh
    have htl:=tot_le (hx ▸ List.prefix_refl _:xs.map (·.2) <+: recs d.seen.flatten)
    refine PO.opn (B:=fun sv:SV=>[cl b1 83 [.pointer (some ⟨b3,0,none⟩)],cl b3 156 [.pointer (some ⟨p,0,none⟩),.int .i64 (tot (xs))],cl b2 84 [sv.v],Sl 94 1 recC (sv.v) (xs),RecsR (xs)]) (fun _ h=>h) fun sv=>?_
    refine PO.blockN<|PO.next<|WP.seq<|WP.reg ?_
    refine WL.h (hl_make (enc:=eB) (n:=64) (0:UInt8) sl94 z5 (by omega) (fun a9 n9 c9=>?_))
    refine WL.e e_assign<|WL.next<|WP.seq<|WP.seq<|WP.reg<|WL.e (e_load a83)<|WL.e e_nil<|WL.e (e_fa f156_0)<|WL.e (e_fa f154_1)<|WL.e (e_load a3)<|WL.e e_assign<|WL.next<|WP.block<|WP.loopK (fun (k:Nat)=>[(12,.int .i64 (tot xs+k:Nat))]) (fun (k:Nat)=>[cl b1 83 [.pointer (some ⟨b3,0,none⟩)],cl b3 156 [.pointer (some ⟨p,0,none⟩),.int .i64 (tot (xs))],cl b2 84 [sv.v],Sl 94 1 recC (sv.v) (xs),RecsR (xs)]++(Sl 5 1 eB (.slice a5 n5 c5) d.seen.flatten::Sl 5 1 eB (.slice a9 n9 c9) (List.replicate 64 0)::Dk p (cleanTo d.seen.flatten d (tot xs) k)::pt db (.deferred (some []))::R)) [(0,_),(2,_),(3,_),(4,_),(5,_),(11,_)] (fun (k:Nat)=>tot xs+k≤d.sure.length) (fun (k:Nat)=>d.sure.length - k) 0 (by omega) ?_
    intro k hk
    obtain ⟨hok,hsu,hwt⟩:=cleanTo_ok d.seen.flatten d (tot xs) k hd
    refine WP.seq<|WP.seq<|WP.reg<|WL.e e_move<|WL.e e_move ?_
    refine WL.h (h_call (Size_spec) k49 ?_)
    refine WL.e e_lss<|WL.next ?_
    refine WP.cond rfl (fun h4=>?_) (fun h4=>?_)
    ·have hlt:tot xs+k < d.sure.length:=by rw [decide_eq_true_eq,hsu] at h4;omega
     refine WP.skip<|PO.next<|WP.seq<|WP.block<|WP.seq<|WP.reg<|WL.e e_move<|WL.e e_move<|WL.e (e_mul (c:=(((tot xs+k) * 64:Nat):Int)) rfl rfl (by rw [w_i64 (by omega) (by omega)];omega))<|WL.e e_move<|WL.e (e_add (c:=((tot xs+k+1:Nat):Int)) rfl rfl (by rw [w_i64 (by omega) (by omega)];omega))<|WL.e (e_mul (c:=(((tot xs+k+1) * 64:Nat):Int)) rfl rfl (by rw [w_i64 (by omega) (by omega)];omega))<|WL.e (el_fromto (lo:=(tot xs+k) * 64) (hi:=(tot xs+k+1) * 64) (xs:=d.seen.flatten) sl94 sl_rl (by omega) (by omega))<|WL.e e_move ?_
     refine WL.h (h_call (BEqual_spec (xs:=(d.seen.flatten.drop ((tot xs+k) * 64)).take 64) (ys:=List.replicate 64 0) (by have:=RL.sub (lo:=(tot xs+k) * 64) (hi:=(tot xs+k+1) * 64) (mx:=none) eB_ok (sl_rl (E:=5) (z:=1) (enc:=eB) (u:=.slice a5 n5 c5) (xs:=d.seen.flatten)) (by omega) (by omega) (by simp);rwa [show (tot xs+k+1) * 64 - (tot xs+k) * 64=64 by omega] at this) sl_rl) k109 ?_)
     refine WL.e e_not<|WL.next ?_
     refine WP.cond rfl (fun h5=>?_) (fun h5=>?_)
     ·replace h5:¬ (d.seen.flatten.drop ((tot xs+k) * 64)).take 64=List.replicate 64 0:=by simpa using h5
      refine WP.reg<|WL.e e_move<|WL.e e_move<|WL.e e_move ?_
      refine WL.h (h_call (Write_spec (d:=(cleanTo d.seen.flatten d (tot xs) k)) (b:=List.replicate 64 0) (tot xs+k) sl_rl (by rw [hsu];exact hlt) hok.len hok.le (by simp) (by omega)) k110 ?_)
      refine WL.nil<|PO.blockN<|PO.next<|WP.reg<|WL.e e_move<|WL.e (e_add (c:=((tot xs+(k+1):Nat):Int)) rfl rfl (by rw [w_i64 (by omega) (by omega)];omega))<|WL.e e_assign<|WL.nil ?_
      rw [show (cleanTo d.seen.flatten d (tot xs) k).write (tot xs+k) (List.replicate 64 0)=cleanTo d.seen.flatten d (tot xs) (k+1) by rw [cleanTo,if_neg h5]]
      exact PO.againK (k+1) (by omega) (by omega)
     ·replace h5:(d.seen.flatten.drop ((tot xs+k) * 64)).take 64=List.replicate 64 0:=by simpa using h5
      refine WP.skip<|PO.blockN<|PO.next<|WP.reg<|WL.e e_move<|WL.e (e_add (c:=((tot xs+(k+1):Nat):Int)) rfl rfl (by rw [w_i64 (by omega) (by omega)];omega))<|WL.e e_assign<|WL.nil ?_
      rw [show (cleanTo d.seen.flatten d (tot xs) k)=cleanTo d.seen.flatten d (tot xs) (k+1) by rw [cleanTo,if_pos h5]]
      exact PO.againK (k+1) (by omega) (by omega)
    ·obtain rfl:k=d.sure.length - tot xs:=by rw [decide_eq_false_iff_not,hsu] at h4;omega
     refine WP.exit<|PO.past nofun<|PO.round nofun<|PO.blockX<|PO.next<|WP.seq<|WP.draws mixedOk 7<|RW.e 0 rfl (e_load a83)<|RW.e 1 rfl (e_load a84)<|RW.e 2 rfl e_move ?_
     refine RW.any (is:=[3]) rfl ⟨?_,trivial⟩
     refine RWat.h rfl rfl rfl ?_
     refine (h_call (Sync_spec hok.pos hok.len) k111 ?_)
     refine ⟨⟨⟨_,rfl,.inl ⟨rfl,(e_load a84)⟩⟩,⟨_,rfl,.inl ⟨rfl,(e_load a83)⟩⟩,trivial⟩,?_⟩
     refine RW.any (is:=[4]) rfl ⟨?_,trivial⟩
     refine RWat.h' rfl rfl rfl ?_
     refine (h_store s83 ?_)
     refine ⟨⟨⟨_,rfl,.inl ⟨rfl,(e_load a84)⟩⟩,trivial⟩,?_⟩
     refine RW.any (is:=[5]) rfl ⟨?_,trivial⟩
     refine RWat.h' rfl rfl rfl ?_
     refine (h_store s84 ?_)
     refine ⟨trivial,?_⟩
     refine RW.e 6 rfl e_assign<|RW.done<|PO.next<|WP.ret ?_
     exact PO.finM (by repeat first | exact .z | apply Put.s) Tryz.results33 (rv_cell a83 (rv_cell a84 (rv_tmp rv_nil))) (hK b3 sv xs hx)
   ·exact fun _ _ _ _ _ _ hc=>absurd trivial hc
end Go.SL
set_option linter.unusedSectionVars false
namespace Go.SL
open Go
def cmpS (a b:ByteArray):Int:=if sLt a b then -1 else if sLt b a || sEq a b then (if sEq a b then 0 else 1) else 1
theorem sEq_iff {a b:ByteArray}:sEq a b=true↔a=b:=by
  simp only [sEq,beq_iff_eq]
  constructor
  · intro h
    rw [ByteArray.ext_iff]
    apply Array.ext'
    simpa [ByteArray.toList_eq] using h
  · rintro rfl;rfl
theorem bl_irrefl:∀ l:List UInt8,Op.bytesLess l l=false
  | []=>rfl
  | a::l=>by simp [Op.bytesLess,bl_irrefl l]
theorem bl_trans:∀ {a b c:List UInt8},Op.bytesLess a b=true→Op.bytesLess b c=true→Op.bytesLess a c=true
  | [],[],_,h,_=>by simp [Op.bytesLess] at h
  | [],_::_,[],_,h=>by simp [Op.bytesLess] at h
  | [],_::_,_::_,_,_=>by simp [Op.bytesLess]
  | _::_,[],_,h,_=>by simp [Op.bytesLess] at h
  | _::_,_::_,[],_,h=>by simp [Op.bytesLess] at h
  | x::a,y::b,z::c,h,h'=>by
    simp only [Op.bytesLess,Bool.or_eq_true,Bool.and_eq_true,decide_eq_true_eq,beq_iff_eq] at h h' ⊢
    rcases h with h | ⟨rfl,h⟩ <;> rcases h' with h' | ⟨rfl,h'⟩
    · left;exact UInt8.lt_trans h h'
    · exact .inl h
    · exact .inl h'
    · exact .inr ⟨rfl,bl_trans h h'⟩
theorem bl_tri:∀ (a b:List UInt8),Op.bytesLess a b=true∨a=b∨Op.bytesLess b a=true
  | [],[]=>.inr (.inl rfl)
  | [],_::_=>.inl (by simp [Op.bytesLess])
  | _::_,[]=>.inr (.inr (by simp [Op.bytesLess]))
  | x::a,y::b=>by
    simp only [Op.bytesLess,Bool.or_eq_true,Bool.and_eq_true,decide_eq_true_eq,beq_iff_eq,List.cons.injEq]
    rcases UInt8.lt_or_lt_of_ne_or_eq x y with h | h | h
    · exact .inl (.inl h)
    · exact .inr (.inr (.inl h))
    · subst h
      rcases bl_tri a b with h | h | h
      · exact .inl (.inr ⟨rfl,h⟩)
      · exact .inr (.inl ⟨rfl,h⟩)
      · exact .inr (.inr (.inr ⟨rfl,h⟩))
where
  UInt8.lt_or_lt_of_ne_or_eq (x y:UInt8):x < y∨y < x∨x=y:=by
    rcases Nat.lt_trichotomy x.toNat y.toNat with h | h | h
    · exact .inl (UInt8.lt_iff_toNat_lt.2 h)
    · exact .inr (.inr (UInt8.toNat_inj.1 h))
    · exact .inr (.inl (UInt8.lt_iff_toNat_lt.2 h))
theorem sLt_irrefl (a:ByteArray):sLt a a=false:=bl_irrefl _
theorem sLt_trans {a b c:ByteArray} (h:sLt a b=true) (h':sLt b c=true):sLt a c=true:=bl_trans h h'
theorem sLt_tri (a b:ByteArray):sLt a b=true∨a=b∨sLt b a=true:=by
  rcases bl_tri a.toList b.toList with h | h | h
  · exact .inl h
  · refine .inr (.inl (sEq_iff.1 ?_));simp [sEq,h]
  · exact .inr (.inr h)
theorem sLt_asymm {a b:ByteArray} (h:sLt a b=true):sLt b a=false:=by
  cases e:sLt b a with
  | false=>rfl
  | true=>have:=sLt_trans h e;rw [sLt_irrefl] at this;cases this
def Rising (l:List RowM):Prop:=l.Pairwise fun a b=>sLt a.key b.key=true
def lowI (l:List RowM) (k:ByteArray):Nat:=(l.takeWhile fun r=>sLt r.key k).length
def hasI (l:List RowM) (k:ByteArray):Bool:=match l[lowI l k]? with
  | some r=>sEq r.key k
  | none=>false
theorem lowI_le (l:List RowM) (k:ByteArray):lowI l k≤l.length:=(List.takeWhile_sublist _).length_le
theorem low_le {l:List RowM} {k:ByteArray} {h:Nat} {x:RowM} (hx:l[h]?=some x) (hp:sLt x.key k=false):lowI l k≤h:=by
  induction l generalizing h with
  | nil=>simp at hx
  | cons a l ih=>
    unfold lowI at *
    rw [List.takeWhile_cons]
    cases h with
    | zero=>simp at hx;subst hx;simp [hp]
    | succ h=>
      simp at hx
      split
      · simp;exact ih hx
      · simp
theorem low_gt {l:List RowM} {k:ByteArray} (hl:Rising l) {h:Nat} {x:RowM} (hx:l[h]?=some x) (hp:sLt x.key k=true):h < lowI l k:=by
  induction l generalizing h with
  | nil=>simp at hx
  | cons a l ih=>
    have hr:=List.pairwise_cons.1 hl
    unfold lowI at *
    rw [List.takeWhile_cons]
    cases h with
    | zero=>simp at hx;subst hx;simp [hp]
    | succ h=>
      simp at hx
      have ha:sLt a.key k=true:=sLt_trans (hr.1 x (List.mem_of_getElem? hx)) hp
      simp [ha];exact ih hr.2 hx
theorem cmpS_lt (a b:ByteArray):decide (cmpS a b < 0)=sLt a b:=by
  unfold cmpS
  cases sLt a b <;> simp
  split <;> (try split) <;> simp
theorem cmpS_eq {a b:ByteArray}:(cmpS a b == 0)=sEq a b:=by
  unfold cmpS
  by_cases h:sEq a b=true
  · have:=sEq_iff.1 h;subst this;simp [sLt_irrefl,h]
  · simp only [Bool.not_eq_true] at h
    rw [h];split <;> (try split) <;> simp_all
end Go.SL
namespace Go.SL.Fc
open Go Go.Proofs Go.SL
theorem a282:aggOf Tryz.prog 282=some none:=by kernel_rfl
theorem a59:aggOf Tryz.prog 59=some none:=by kernel_rfl
theorem a78:aggOf Tryz.prog 78=some (some 2):=by kernel_rfl
theorem f162_0:fldOf Tryz.prog 162 0=some 0:=by kernel_rfl
theorem f162_1:fldOf Tryz.prog 162 1=some 1:=by kernel_rfl
theorem f78_0:fldOf Tryz.prog 78 0=some 0:=by kernel_rfl
theorem k116:callable Tryz.prog 116=true:=by kernel_rfl
theorem k146:callable Tryz.prog 146=true:=by kernel_rfl
theorem k201:callable Tryz.prog 201=true:=by kernel_rfl
theorem k202:callable Tryz.prog 202=true:=by kernel_rfl
theorem k219:callable Tryz.prog 219=true:=by kernel_rfl
theorem k220:callable Tryz.prog 220=true:=by kernel_rfl
theorem k221:callable Tryz.prog 221=true:=by kernel_rfl
theorem k230:callable Tryz.prog 230=true:=by kernel_rfl
theorem k65:callable Tryz.prog 65=true:=by kernel_rfl
theorem p162:placesOf Tryz.prog 162=some [(0,1),(1,1)]:=by kernel_rfl
theorem pt87:isPtr Tryz.prog 87=true:=by kernel_rfl
theorem sl59:slOf Tryz.prog 59=some (78,2,24):=by kernel_rfl
theorem z162:zeroOf Tryz.prog 162=some [.slice none 0 0,.bool false]:=by kernel_rfl
theorem z78:zeroOf Tryz.prog 78=some [.string .empty,.int .u32 0]:=by kernel_rfl
end Go.SL.Fc
namespace Go.SL
open Go Go.Proofs Fc
theorem isNaN_spec {g:World} (a:ByteArray):Spec Tryz.prog g 230 [.string a] [] fun K R=>K (.bool false) R:=by
 refine Spec.intro Tryz.func230 rfl Tryz.ntmps230 rfl fun R K hK=>?_
 refine WP.seq<|WP.reg<|WL.e e_assign<|WL.next<|WP.seq<|WP.reg<|WL.e e_move<|WL.e e_move<|WL.e e_sne<|WL.e e_assign<|WL.next<|WP.ret ?_
 exact PO.finE Tryz.results230 (rv_tmp rv_nil) (by simp [sEq]) hK
theorem cmp_spec {g:World} (a b:ByteArray):Spec Tryz.prog g 221 [.string a,.string b] [] fun K R=>K (.int .i64 (cmpS a b)) R:=by
 refine Spec.intro Tryz.func221 rfl Tryz.ntmps221 rfl fun R K hK=>?_
 refine WP.seq<|WP.reg<|WL.e e_assign<|WL.next<|WP.seq<|WP.reg<|WL.e e_move ?_
 refine WL.h (h_call (isNaN_spec _) k230 ?_)
 refine WL.e e_assign<|WL.next<|WP.seq<|WP.reg<|WL.e e_move ?_
 refine WL.h (h_call (isNaN_spec _) k230 ?_)
 refine WL.e e_assign<|WL.next<|WP.seq<|WP.seq<|WP.reg<|WL.e e_move<|WL.next<|WP.cond_f rfl<|WP.skip<|PO.next<|WP.seq<|WP.seq<|WP.reg<|WL.e e_move<|WL.next<|WP.cond_f rfl<|WP.skip<|PO.next<|WP.seq<|WP.seq<|WP.reg<|WL.e e_move<|WL.e e_move<|WL.e e_slt ?_
 refine WL.next ?_
 refine WP.cond rfl (fun h1=>?_) (fun h1=>?_)
 ·skip
  refine WP.seq<|WP.reg<|WL.e e_assign<|WL.next<|WP.ret<|PO.past nofun ?_
  exact PO.finE Tryz.results221 (rv_tmp rv_nil) (by simp_all [cmpS]) hK
 ·skip
  refine WP.skip<|PO.next<|WP.seq<|WP.seq<|WP.reg<|WL.e e_move<|WL.e e_move<|WL.e e_sgt<|WL.next ?_
  refine WP.cond rfl (fun h2=>?_) (fun h2=>?_)
  ·skip
   refine WP.seq<|WP.reg<|WL.e e_assign<|WL.next<|WP.ret<|PO.past nofun ?_
   exact PO.finE Tryz.results221 (rv_tmp rv_nil) (by simp_all [cmpS]) hK
  ·skip
   refine WP.skip<|PO.next<|WP.seq<|WP.reg<|WL.e e_assign<|WL.next<|WP.ret ?_
   exact PO.finE Tryz.results221 (rv_tmp rv_nil) (by simp_all [cmpS]) hK
theorem rowKey_spec {g:World} (x:RowM):Spec Tryz.prog g 202 [x.v] [] fun K R=>K (.string x.key) R:=by
 refine Spec.intro Tryz.func202 rfl Tryz.ntmps202 rfl fun R K hK=>?_
 refine WP.seq<|WP.reg ?_
 refine WL.h (h_box fun b1=>?_)
 refine WL.e e_assign<|WL.next<|WP.seq<|WP.reg<|WL.e (e_fa f78_0)<|WL.e (e_load a9)<|WL.e e_assign<|WL.next<|WP.ret ?_
 exact PO.fin Tryz.results202 (rv_tmp rv_nil) hK
theorem cmpRow_spec {g:World} (x:RowM) (k:ByteArray) (cb:Nat):Spec Tryz.prog g 220 [x.v,.string k,.pointer (some ⟨cb,0,none⟩)] [cl cb 282 [.func (.func 202) #[] #[]]] fun K R=>K (.int .i64 (cmpS x.key k)) (cl cb 282 [.func (.func 202) #[] #[]]::R):=by
 refine Spec.intro Tryz.func220 rfl Tryz.ntmps220 rfl fun R K hK=>?_
 refine WP.seq<|WP.reg ?_
 refine WL.h (h_box fun b1=>?_)
 refine WL.e e_assign<|WL.next<|WP.seq<|WP.reg<|WL.e (e_load a282)<|WL.e (e_loadN a78) ?_
 refine WL.h (h_callv (fs:=[]) (cs:=[]) (args:=[x.v]) (rowKey_spec x) k202 ?_)
 refine WL.e e_move ?_
 refine WL.h (h_call (cmp_spec _ _) k221 ?_)
 refine WL.e e_assign<|WL.next<|WP.ret ?_
 exact PO.fin Tryz.results220 (rv_tmp rv_nil) hK
theorem BSF_spec {g:World} {A:HP} {u y:Value} {l:List RowM} {k:ByteArray} {B:HP} (hA:RL A 2 RowM.c u l) (hl:Rising l) (hn:l.length≤68719476736) (hy:∀ x:RowM,CallV Tryz.prog g y [x.v,.string k] [B] fun K R=>K (.int .i64 (cmpS x.key k)) (B::R)) :
  Spec Tryz.prog g 219 [u,.string k,y] [A,B] fun K R=>K (.tuple #[.int .i64 (lowI l k),.bool (hasI l k)]) (A::B::R):=by
 refine Spec.intro Tryz.func219 rfl Tryz.ntmps219 rfl fun R K hK=>?_
 refine WP.seq<|WP.reg<|WL.e e_assign<|WL.e e_assign<|WL.next<|WP.seq<|WP.reg<|WL.e e_move<|WL.e (el_len sl59 hA)<|WL.e e_assign<|WL.next<|WP.seq<|WP.reg<|WL.e e_move<|WL.e e_assign<|WL.e e_assign<|WL.next<|WP.seq<|WP.block<|WP.loopK (fun (x:Nat × Nat)=>[(9,.int .i64 x.1),(10,.int .i64 x.2)]) (fun (x:Nat × Nat)=>A::B::R) [(0,_),(1,_),(2,_),(6,_),(7,_),(8,_)] (fun (x:Nat × Nat)=>x.1≤lowI l k∧lowI l k≤x.2∧x.2≤l.length) (fun (x:Nat × Nat)=>x.2 - x.1) (0,l.length) (⟨Nat.zero_le _,lowI_le l k,Nat.le_refl _⟩) ?_
 rintro ⟨i,j⟩ ⟨h1,h2,h3⟩
 simp only at h1 h2 h3
 dsimp only
 refine WP.seq<|WP.seq<|WP.reg<|WL.e e_move<|WL.e e_move<|WL.e e_lss<|WL.next ?_
 refine WP.cond rfl (fun h4=>?_) (fun h4=>?_)
 ·have hij:i < j:=by rw [decide_eq_true_eq] at h4;omega
  obtain ⟨r,hr⟩:∃ r,l[(i+j) / 2]?=some r:=⟨_,List.getElem?_eq_getElem (by omega)⟩
  refine WP.skip<|PO.next<|WP.block<|WP.seq<|WP.reg<|WL.e e_move<|WL.e e_move<|WL.e (e_add (c:=((i+j:Nat):Int)) rfl rfl (by rw [w_i64 (by omega) (by omega)];omega))<|WL.e (e_conv (c:=((i+j:Nat):Int)) (by rw [Tryz.underlying3];rfl) Tryz.underlying95 rfl (by simp [IntKind.wrap,IntKind.bits,IntKind.signed];omega))<|WL.e (e_shrN (k:=.u64) (a:=i+j) (m:=1) (by decide))<|WL.e (e_conv (c:=(((i+j) / 2:Nat):Int)) (by rw [Tryz.underlying95];rfl) Tryz.underlying3 rfl (w_i64 (by omega) (by omega)))<|WL.e e_assign<|WL.next<|WP.seq<|WP.reg<|WL.e e_move<|WL.e e_move<|WL.e e_move<|WL.e (el_ia (j:=(i+j) / 2) sl59 hA (by omega))<|WL.e (el_loadN a78 rowE hA hr)<|WL.e e_move ?_
  refine WL.h (h_cally (hy r) ?_)
  refine WL.e e_lss<|WL.next ?_
  refine WP.cond rfl (fun h5=>?_) (fun h5=>?_)
  ·rw [cmpS_lt] at h5
   refine WP.reg<|WL.e e_move<|WL.e (e_add (c:=(((i+j) / 2+1:Nat):Int)) rfl rfl (by rw [w_i64 (by omega) (by omega)];omega))<|WL.e e_assign<|WL.nil<|PO.blockN ?_
   exact PO.againK ((i+j) / 2+1,j) ⟨low_gt hl hr h5,h2,h3⟩ (by simp only;omega)
  ·rw [cmpS_lt] at h5
   refine WP.reg<|WL.e e_move<|WL.e e_assign<|WL.nil<|PO.blockN ?_
   exact PO.againK (i,(i+j) / 2) ⟨h1,low_le hr h5,by simp only;omega⟩ (by simp only;omega)
 ·obtain rfl:i=lowI l k:=by rw [decide_eq_false_iff_not] at h4;omega
  refine WP.exit<|PO.past nofun<|PO.round nofun<|PO.blockX<|PO.next<|WP.seq<|WP.reg<|WL.e e_move<|WL.e e_move<|WL.e e_move<|WL.e e_lss<|WL.e e_move ?_
  refine WL.bool 39 rfl (fun h6=>?_) (fun h6=>?_)
  ·obtain ⟨r,hr⟩:∃ r,l[lowI l k]?=some r:=⟨_,List.getElem?_eq_getElem (by rw [decide_eq_true_eq] at h6;omega)⟩
   refine WL.e e_move<|WL.e e_move<|WL.e e_move<|WL.e (el_ia (j:=lowI l k) sl59 hA (idx_lt hr))<|WL.e (el_loadN a78 rowE hA hr)<|WL.e e_move ?_
   refine WL.h (h_cally (hy r) ?_)
   refine WL.e e_eql<|WL.e e_pick_t<|WL.e e_assign<|WL.e e_assign<|WL.next<|WP.ret ?_
   exact PO.finE Tryz.results219 (rv_tmp (rv_tmp rv_nil)) (by simp [hasI,hr,cmpS_eq]) hK
  ·skip
   refine WL.skip<|WL.skip<|WL.skip<|WL.skip<|WL.skip<|WL.skip<|WL.skip<|WL.skip<|WL.e e_pick_f<|WL.e e_assign<|WL.e e_assign<|WL.next<|WP.ret ?_
   exact PO.finE Tryz.results219 (rv_tmp (rv_tmp rv_nil)) (by rw [decide_eq_false_iff_not] at h6;simp [hasI,List.getElem?_eq_none (show l.length≤lowI l k by omega)]) hK
theorem place_spec {g:World} {A:HP} {u:Value} {l:List RowM} (k:ByteArray) (hA:RL A 2 RowM.c u l) (hl:Rising l) (hn:l.length≤68719476736) :
  Spec Tryz.prog g 201 [u,.string k,.func (.func 202) #[] #[]] [A] fun K R=>K (.tuple #[.int .i64 (lowI l k),.bool (hasI l k)]) (A::R):=by
 refine Spec.intro Tryz.func201 rfl Tryz.ntmps201 rfl fun R K hK=>?_
 refine WP.seq<|WP.reg ?_
 refine WL.h (h_box fun b1=>?_)
 refine WL.e e_assign<|WL.e e_assign<|WL.next<|WP.seq<|WP.reg<|WL.e e_move<|WL.e e_move<|WL.e e_makeFunc ?_
 refine WL.h (h_call (BSF_spec (k:=k) hA hl hn (fun x=>CallV.of_spec (fs:=[]) (cs:=[.pointer (some ⟨b1,0,none⟩)]) (cmpRow_spec x k b1) k220)) k219 ?_)
 refine WL.e e_extract<|WL.e e_extract<|WL.e e_assign<|WL.e e_assign<|WL.next<|WP.ret ?_
 exact PO.fin Tryz.results201 (rv_tmp (rv_tmp rv_nil)) hK
def Mm (p:Nat) (l:List RowM):HP:=fun S=>∃ x:SV,stars [cl p 162 [x.v,.bool true],Sl 78 2 RowM.c x.v l] S
theorem Mm_op {p:Nat} {l:List RowM}:∀ S,Mm p l S→∃ x:SV,stars [cl p 162 [x.v,.bool true],Sl 78 2 RowM.c x.v l] S:=fun _ h=>h
theorem find_spec {g:World} {p:Nat} {l:List RowM} (k:ByteArray) (hl:Rising l) (hn:l.length≤68719476736):Spec Tryz.prog g 184 [.pointer (some ⟨p,0,none⟩),.string k] [Mm p l] fun K R=>K (.tuple #[.int .i64 (lowI l k),.bool (hasI l k)]) (Mm p l::R):=by
 refine Spec.intro Tryz.func184 rfl Tryz.ntmps184 rfl fun R K hK=>?_
 refine WP.opn (Mm_op (p:=p) (l:=l)) fun s=>?_
 refine WP.seq<|WP.reg<|WL.e e_assign<|WL.e e_assign<|WL.next<|WP.seq<|WP.reg<|WL.e e_move<|WL.e e_nil<|WL.e (e_fa f162_0)<|WL.e (e_load a59)<|WL.e e_move ?_
 refine WL.h (h_call (place_spec k (sl_rl (xs:=l)) hl hn) k201 ?_)
 refine WL.e e_extract<|WL.e e_extract<|WL.e e_assign<|WL.e e_assign<|WL.next<|WP.ret<|PO.cls (A:=Mm p l) (B:=[cl p 162 [s.v,.bool true],Sl 78 2 RowM.c (s.v) l]) (fun S h=>⟨s,h⟩) ?_
 exact PO.fin Tryz.results184 (rv_tmp (rv_tmp rv_nil)) hK
theorem MNew_spec {g:World}:Spec Tryz.prog g 34 [] [] fun K R=>∀ p,K (.pointer (some ⟨p,0,none⟩)) (Mm p []::R):=by
 refine Spec.intro Tryz.func34 rfl Tryz.ntmps34 rfl fun R K hK=>?_
 refine WP.seq<|WP.reg<|WL.e e_assign<|WL.next<|WP.seq<|WP.reg<|WL.e (e_build z162 p162 (.z (.slice none 0 0)<|.o (.const (.bool true)) rfl<|.n)) ?_
 refine WL.h (h_box fun b1=>?_)
 refine WL.e e_assign<|WL.next<|WP.ret<|PO.nils 78 2 RowM.c none ?_
 refine PO.cls (A:=Mm b1 []) (B:=[cl b1 162 [.slice none 0 0,.bool true],Sl 78 2 RowM.c (.slice none 0 0) []]) (fun S h=>⟨⟨none,0,0⟩,h⟩) ?_
 exact PO.fin Tryz.results34 (rv_tmp rv_nil) (hK b1)
theorem Mthere_spec {g:World} {p:Nat} {l:List RowM}:Spec Tryz.prog g 116 [.pointer (some ⟨p,0,none⟩)] [Mm p l] fun K R=>K (.bool true) (Mm p l::R):=by
 refine Spec.intro Tryz.func116 rfl Tryz.ntmps116 rfl fun R K hK=>?_
 refine WP.opn (Mm_op (p:=p) (l:=l)) fun s=>?_
 refine WP.seq<|WP.reg<|WL.e e_assign<|WL.next<|WP.seq<|WP.reg<|WL.e e_move<|WL.e (e_pne pt87)<|WL.e e_move ?_
 refine WL.bool 5 rfl (fun h=>?_) (fun h=>?_)
 ·skip
  refine WL.e e_move<|WL.e e_nil<|WL.e (e_fa f162_1)<|WL.e (e_load a4)<|WL.e e_pick_t<|WL.e e_assign<|WL.next<|WP.ret<|PO.cls (A:=Mm p l) (B:=[cl p 162 [s.v,.bool true],Sl 78 2 RowM.c (s.v) l]) (fun S h=>⟨s,h⟩) ?_
  exact PO.fin Tryz.results116 (rv_tmp rv_nil) hK
 ·cases h 
theorem CloneR_spec {g:World} {A:HP} {u:Value} {xs:List RowM} (hA:RL A 2 RowM.c u xs) (hb:xs.length≤68719476736):Spec Tryz.prog g 146 [u] [A] fun K R=>∀ a m c,K (.slice a m c) (Sl 78 2 RowM.c (.slice a m c) xs::A::R):=by
 refine Spec.intro Tryz.func146 rfl Tryz.ntmps146 rfl fun R K hK=>?_
 refine WP.seq<|WP.reg<|WL.e e_assign<|WL.next<|WP.seq<|WP.seq<|WP.reg<|WL.e e_move<|WL.e (e_slnil sl59 hA)<|WL.next ?_
 refine WP.cond rfl (fun h=>?_) (fun h=>?_)
 ·refine WP.know (φ:=xs=[]) (Pick.know (A:=A) (by exact .z) fun S hS=>?_) fun hx=>?_
  ·rcases hA S hS with ⟨h0,_⟩ | ⟨b,o,c,l,t,e,_⟩
   ·simpa using h0
   ·rw [e] at h;cases h
  subst hx
  refine WP.nils 78 2 RowM.c none ?_
  refine WP.seq<|WP.reg<|WL.e e_assign<|WL.next<|WP.ret<|PO.past nofun ?_
  exact PO.fin Tryz.results146 (rv_tmp rv_nil) (hK none 0 0)
 ·skip
  refine WP.skip<|PO.next<|WP.seq<|WP.reg ?_
  refine WL.h (h_bs0 sl59 (enc:=RowM.c) fun a1 n1 c1=>?_)
  refine WL.e e_move ?_
  refine WL.h (hl_append (xs:=[]) (ys:=xs) sl59 rowE z78 hA (by simp;omega) fun a2 n2 c2=>?_)
  rw [List.nil_append]
  refine WL.e e_assign<|WL.next<|WP.ret ?_
  exact PO.fin Tryz.results146 (rv_tmp rv_nil) (hK a2 n2 c2)
theorem Rows_spec {g:World} {p:Nat} {l:List RowM} (hn:l.length≤68719476736):Spec Tryz.prog g 65 [.pointer (some ⟨p,0,none⟩)] [Mm p l] fun K R=>∀ a m c,K (.slice a m c) (Sl 78 2 RowM.c (.slice a m c) l::Mm p l::R):=by
 refine Spec.intro Tryz.func65 rfl Tryz.ntmps65 rfl fun R K hK=>?_
 refine WP.seq<|WP.reg<|WL.e e_assign<|WL.next<|WP.seq<|WP.seq<|WP.reg<|WL.e e_move ?_
 refine WL.h (h_call (Mthere_spec) k116 ?_)
 refine WL.e e_not<|WL.next ?_
 refine WP.cond rfl (fun h=>?_) (fun h=>?_)
 ·cases h
 ·refine WP.opn (Mm_op (p:=p) (l:=l)) fun s=>?_
  refine WP.skip<|PO.next<|WP.seq<|WP.reg<|WL.e e_move<|WL.e e_nil<|WL.e (e_fa f162_0)<|WL.e (e_load a59) ?_
  refine WL.h (h_call (CloneR_spec (sl_rl (xs:=l)) hn) k146 ?_)
  intro a m c
  refine WL.e e_assign<|WL.next<|WP.ret<|PO.cls (A:=Mm p l) (B:=[cl p 162 [s.v,.bool true],Sl 78 2 RowM.c (s.v) l]) (fun S h=>⟨s,h⟩) ?_
  exact PO.fin Tryz.results65 (rv_tmp rv_nil) (hK a m c)
theorem Twin_spec {g:World} {p:Nat} {l:List RowM} (hn:l.length≤68719476736):Spec Tryz.prog g 56 [.pointer (some ⟨p,0,none⟩)] [Mm p l] fun K R=>∀ q,K (.pointer (some ⟨q,0,none⟩)) (Mm q l::Mm p l::R):=by
 refine Spec.intro Tryz.func56 rfl Tryz.ntmps56 rfl fun R K hK=>?_
 refine WP.seq<|WP.reg<|WL.e e_assign<|WL.next<|WP.seq<|WP.seq<|WP.reg<|WL.e e_move ?_
 refine WL.h (h_call (Mthere_spec) k116 ?_)
 refine WL.e e_not<|WL.next ?_
 refine WP.cond rfl (fun h=>?_) (fun h=>?_)
 ·cases h
 ·skip
  refine WP.skip<|PO.next<|WP.seq<|WP.reg<|WL.e e_move ?_
  refine WL.h (h_call (Rows_spec hn) k65 ?_)
  intro a m c
  refine WL.e (e_build z162 p162 (.o (.tmp 7) rfl<|.o (.const (.bool true)) rfl<|.n)) ?_
  refine WL.h (h_box fun b1=>?_)
  refine WL.e e_assign<|WL.next<|WP.ret<|PO.cls (A:=Mm b1 l) (B:=[cl b1 162 [.slice a m c,.bool true],Sl 78 2 RowM.c (.slice a m c) l]) (fun S h=>⟨⟨a,m,c⟩,h⟩) ?_
  exact PO.fin Tryz.results56 (rv_tmp rv_nil) (hK b1)
end Go.SL
namespace Go.SL
open Go
theorem stars_one {b:Nat} {o:Obj} {S:Piece} (h:stars [pt b o] S):pt b o S:=by
  obtain ⟨S1,S2,_,h1,_,h2,_⟩:=h;exact h1 _ _ h2
section
variable {P : Program} {r : Option Nat} {g : World} {Γ : Env} {L M : List HP} {Q : Post} {dst : Option Tmp} {t : TypeId} {pos : String} {aft : Array Edge} {gd : Option (Nat × Bool)}
theorem h_append_at {T E z y n c k b o:Nat} {U:TypeId} {x xv:Operand} {u v:Value} {l ds:List Value} {B:HP} {N M':List HP} {K:Value→List HP→Prop} (hs:slOf P T=some (E,z,y)) (hA:At u b o n c) (hl:o+c * z≤l.length) (hB:Rd B z v k ds) (h1:ones ds=true) (hnk:n+k≤c)
    (hK:∀ a,At (.slice a (n+k) c) b o (n+k) c→K (.slice a (n+k) c) N) (hx:ev Γ x=some u:=by rfl) (hv:ev Γ xv=some v:=by rfl) (p2:Pick L B M':=by repeat first | exact .z | apply Pick.s) (hp:Put L (cl b U l) (cl b U (splice l (o+n * z) ds)) N:=by repeat first | exact .z | apply Put.s):HO P r g ⟨dst,.call ⟨.builtin .append,#[x,xv],#[T,T]⟩,t,pos,aft,gd⟩ Γ L K:=
  HO.run (by simp) fun a w ha hw=>by
    obtain ⟨a',rfl,hn,hx'⟩:=hA
    obtain ⟨R,p1,_⟩:=hp.picks
    have hr:=hw.rd p2 hB
    have hb:=hw.get p1
    obtain ⟨hu,hsz,_⟩:=slOf_und hs
    have hm:(#[x,xv]:Array Operand).map a.eval=#[.slice a' n c,v]:=by simp [ev_ok hx ha,ev_ok hv ha]
    have hm1:(n+k) * z≤c * z:=Nat.mul_le_mul_right _ hnk
    rw [Nat.add_mul] at hm1
    have hread:=hr.read (P:=P)
    have hlen:=hr.len
    rcases hx' with rfl | rfl
    · obtain ⟨w',hrun,a1,a2,a3,a4,a5,a6⟩:=run_storeCells (P:=P) (T:=U) ds 0 (o+n * z) l w hb (by omega) (ones_ok h1)
      refine ⟨_,N,w',?_,hK _ ⟨_,rfl,hnk,.inl rfl⟩,hw.set hp w' a1 a2 a3 a4 (by simpa using a5) a6⟩
      show (do let d ← resolve a.eval ⟨.builtin .append,#[x,xv],#[T,T]⟩ t;invoke d.target d.args:Sem Next).run P w=_
      simp only [resolve,hm,Sem.run_bind,Sem.run_pure,Result.andThen_ok,invoke,builtin]
      simp only [Builtin.append_,List.getElem?_toArray,List.getElem?_cons_zero,List.getElem?_cons_succ,Sem.run_bind,run_underlying hu,Result.andThen_ok,run_sizeOf hsz]
      simp [hread.1,hread.2,hnk,add_none,hrun]
    · have e1:n=0:=by omega
      have e2:k=0:=by omega
      subst e1;subst e2
      have hd:ds=[]:=by simpa using hlen
      subst hd
      refine ⟨_,N,w,?_,hK a' ⟨_,rfl,Nat.le_refl _,.inr rfl⟩,hw.set hp w rfl rfl rfl rfl (by simpa [splice] using hb) (fun _ _=>rfl)⟩
      show (do let d ← resolve a.eval ⟨.builtin .append,#[x,xv],#[T,T]⟩ t;invoke d.target d.args:Sem Next).run P w=_
      simp only [resolve,hm,Sem.run_bind,Sem.run_pure,Result.andThen_ok,invoke,builtin]
      simp only [Builtin.append_,List.getElem?_toArray,List.getElem?_cons_zero,List.getElem?_cons_succ,Sem.run_bind,run_underlying hu,Result.andThen_ok,run_sizeOf hsz]
      cases a' <;> simp [hread.1,hread.2,storeCells]
theorem splice_mid (U V W vs:List Value) (h:vs.length=V.length):splice (U++V++W) U.length vs=U++vs++W:=by
  rw [splice_eq _ _ _ (by simp [h])]
  rw [List.append_assoc U V W,List.take_left,← List.append_assoc,List.drop_append,List.drop_eq_nil_of_le (by simp [h])]
  simp [h]
theorem del_cells {α:Type} {z o c:Nat} {enc:α→List Value} (he:EncOk z enc) {l zs:List Value} {A D:List α} {x:α} (hl:o+c * z≤l.length) (hc:(A++x::D).length≤c) (hcs:(l.drop o).take ((A++x::D).length * z)=(A++x::D).flatMap enc) (hz:zs.length=z) :
    ((splice (splice l (o+A.length * z) (D.flatMap enc)) (o+(A.length+D.length) * z) zs).drop o).take ((A++D).length * z)=(A++D).flatMap enc∧(splice (splice l (o+A.length * z) (D.flatMap enc)) (o+(A.length+D.length) * z) zs).length=l.length:=by
  have hm:(A++x::D).length * z≤c * z:=Nat.mul_le_mul_right _ hc
  have hlP:(l.take o).length=o:=by simp;omega
  have el:l=l.take o++(A++x::D).flatMap enc++l.drop (o+(A++x::D).length * z):=by
    rw [← hcs,List.append_assoc]
    conv=>lhs;rw [← List.take_append_drop o l]
    congr 1
    rw [← List.drop_drop];exact (List.take_append_drop _ _).symm
  generalize hP:l.take o=P at el hlP
  generalize l.drop (o+(A++x::D).length * z)=S at el
  have hfA:=flat_len he A
  have hfD:=flat_len he D
  have hfx:=he.len x
  have e1:l=(P++A.flatMap enc)++((enc x++D.flatMap enc).take (D.flatMap enc).length)++((enc x++D.flatMap enc).drop (D.flatMap enc).length++S):=by
    rw [el];simp only [List.flatMap_append,List.flatMap_cons,List.append_assoc]
    rw [← List.append_assoc (List.take _ _),List.take_append_drop];simp
  have hU:(P++A.flatMap enc).length=o+A.length * z:=by simp [hfA,hlP]
  have s1:splice l (o+A.length * z) (D.flatMap enc)=(P++A.flatMap enc)++D.flatMap enc++((enc x++D.flatMap enc).drop (D.flatMap enc).length++S):=by
    rw [e1,← hU,splice_mid _ _ _ _ (by simp)]
  have hU2:(P++A.flatMap enc++D.flatMap enc).length=o+(A.length+D.length) * z:=by simp [hfA,hfD,hlP,Nat.add_mul]
  have s2:splice (splice l (o+A.length * z) (D.flatMap enc)) (o+(A.length+D.length) * z) zs=P++(A.flatMap enc++D.flatMap enc)++(zs++S):=by
    rw [s1,← List.append_assoc _ _ S,← hU2,splice_mid _ _ _ _ (by rw [List.length_drop,List.length_append];omega)];simp
  have hlen:l.length=P.length+(A++x::D).length * z+S.length:=by
    conv=>lhs;rw [el]
    simp only [List.length_append,flat_len he]
  rw [s2]
  refine ⟨?_,?_⟩
  · rw [List.append_assoc,← hlP,List.drop_left,← List.flatMap_append,← flat_len he,List.take_left]
  · rw [hlen];simp only [List.length_append,List.length_cons,hfA,hfD,hz,Nat.add_mul,Nat.one_mul];omega
end
end Go.SL
namespace Go.SL
open Go
theorem split_el {α:Type} {xs:List α} {i:Nat} {x:α} (h:xs[i]?=some x):∃ A D,xs=A++x::D∧A.length=i:=by
  have hlt:=idx_lt h
  refine ⟨xs.take i,xs.drop (i+1),?_,by simp;omega⟩
  rw [List.getElem?_eq_getElem hlt] at h;cases h
  rw [List.getElem_cons_drop,List.take_append_drop]
theorem erase_mid {α:Type} (A D:List α) (x:α):(A++x::D).eraseIdx A.length=A++D:=by
  rw [List.eraseIdx_append_of_length_le (Nat.le_refl _)];simp
theorem rd_part {α:Type} {z o b n c:Nat} {enc:α→List Value} (he:EncOk z enc) {T:TypeId} {l:List Value} {xs:List α} {u:Value} (hA:At u b o n c) (hl:o+c * z≤l.length) (hn:xs.length=n) (hcs:(l.drop o).take (n * z)=xs.flatMap enc):RL (cl b T l) z enc u xs:=by
  unfold RL;rw [hn,← hcs];exact hA.rd hl
theorem cells_tail {α:Type} {z o:Nat} {enc:α→List Value} (he:EncOk z enc) {l:List Value} {A D:List α} {x:α} (hcs:(l.drop o).take ((A++x::D).length * z)=(A++x::D).flatMap enc):(l.drop (o+(A.length+1) * z)).take (D.length * z)=D.flatMap enc:=by
  have:=congrArg (List.drop ((A.length+1) * z)) hcs
  rw [List.drop_take,flat_drop he,List.drop_drop,← Nat.sub_mul] at this
  rw [show (A++x::D).length - (A.length+1)=D.length by simp;omega,show (A++x::D).drop (A.length+1)=D by rw [List.drop_append];simp [List.drop_eq_nil_of_le]] at this
  exact this
end Go.SL
namespace Go.SL.Fc
open Go Go.Proofs Go.SL
theorem k181:callable Tryz.prog 181=true:=by kernel_rfl
end Go.SL.Fc
namespace Go.SL
open Go Go.Proofs Fc
theorem ext_of {l:List Value} {n:Nat} (h:l.length=n):Ext l 0 n l:=h ▸ ext_all l
theorem index_at {α:Type} {p:α→Bool} {xs:List α} {i:Nat} {x:α} (h:(xs.take i).any p=false) (hx:xs[i]?=some x) (hp:p x=true):(if xs.any p then ((xs.findIdx p:Nat):Int) else -1)=i:=by
 have h1:xs.any p=true:=List.any_eq_true.2 ⟨x,List.mem_of_getElem? hx,hp⟩
 rw [if_pos h1]
 congr 1
 have hlt:=idx_lt hx
 rw [List.findIdx_eq hlt]
 refine ⟨by rw [List.getElem?_eq_getElem hlt] at hx;cases hx;exact hp,fun j hj=>?_⟩
 rw [List.any_eq_false] at h
 have:=h xs[j] (by rw [List.mem_take_iff_getElem];exact ⟨j,by omega,rfl⟩)
 simpa using this
theorem IndexC_spec {g:World} {A B:HP} {u y:Value} {xs:List (ChgM)} {p:ChgM→Bool} (hA:RL A 3 ChgM.c u xs) (hn:xs.length≤68719476736) (hy:∀ x,CallV Tryz.prog g y [.agg (ChgM.c x).toArray] [B] fun K R=>K (.bool (p x)) (B::R)) :
  Spec Tryz.prog g 181 [u,y] [A,B] fun K R=>K (.int .i64 (if xs.any p then (xs.findIdx p:Nat) else -1)) (A::B::R):=by
 refine Spec.intro Tryz.func181 rfl Tryz.ntmps181 rfl fun R K hK=>?_
 refine WP.seq<|WP.reg<|WL.e e_assign<|WL.next<|WP.seq<|WP.seq<|WP.reg<|WL.e e_move<|WL.e (el_len sl96 hA)<|WL.e e_move<|WL.next<|WP.block<|WP.loopK (fun (i:Nat)=>[(8,.int .i64 i)]) (fun (i:Nat)=>A::B::R) [(0,_),(1,_),(7,_)] (fun (i:Nat)=>i≤xs.length∧(xs.take i).any p=false) (fun (i:Nat)=>xs.length - i) 0 (⟨Nat.zero_le _,by simp⟩) ?_
 rintro i ⟨h1,h2⟩
 refine WP.seq<|WP.reg<|WL.e e_lss<|WL.next<|WP.seq ?_
 refine WP.cond rfl (fun h3=>?_) (fun h3=>?_)
 ·have hlt:i < xs.length:=by rw [decide_eq_true_eq] at h3;omega
  obtain ⟨x,hx⟩:∃ x,xs[i]?=some x:=⟨_,List.getElem?_eq_getElem hlt⟩
  refine WP.skip<|PO.next<|WP.seq<|WP.block<|WP.seq<|WP.reg<|WL.e e_move<|WL.e e_assign<|WL.next<|WP.seq<|WP.reg<|WL.e e_move<|WL.e e_move<|WL.e e_move<|WL.e (el_ia sl96 hA hlt)<|WL.e (el_loadN (vs:=ChgM.c x) a123 chgE hA hx (hv:=ext_of (chgE.len x))) ?_
  refine WL.h (h_cally (hy x) ?_)
  refine WL.next ?_
  refine WP.cond rfl (fun h4=>?_) (fun h4=>?_)
  ·skip
   refine WP.seq<|WP.reg<|WL.e e_move<|WL.e e_assign<|WL.next<|WP.ret<|PO.blockR<|PO.past nofun<|PO.round nofun<|PO.blockR<|PO.past nofun ?_
   exact PO.finE Tryz.results181 (rv_tmp rv_nil) (by rw [index_at h2 hx h4];rfl) hK
  ·skip
   refine WP.skip<|PO.blockN<|PO.next<|WP.reg<|WL.e (e_add rfl rfl (w_i64 (by omega) (by omega)))<|WL.e e_move<|WL.nil ?_
   exact PO.againK (i+1) ⟨by omega,by rw [take_snoc hx,List.any_append,h2];simp [h4]⟩ (by omega)
 ·have hall:xs.any p=false:=by rw [decide_eq_false_iff_not] at h3;rwa [List.take_of_length_le (by omega)] at h2
  refine WP.exit<|PO.past nofun<|PO.round nofun<|PO.blockX<|PO.next<|WP.seq<|WP.reg<|WL.e e_assign<|WL.next<|WP.ret ?_
  exact PO.finE Tryz.results181 (rv_tmp rv_nil) (by rw [hall];rfl) hK
theorem ContainsC_spec {g:World} {A B:HP} {u y:Value} {xs:List ChgM} {p:ChgM→Bool} (hA:RL A 3 ChgM.c u xs) (hn:xs.length≤68719476736) (hy:∀ x,CallV Tryz.prog g y [.agg (ChgM.c x).toArray] [B] fun K R=>K (.bool (p x)) (B::R)) :
  Spec Tryz.prog g 117 [u,y] [A,B] fun K R=>K (.bool (xs.any p)) (A::B::R):=by
 refine Spec.intro Tryz.func117 rfl Tryz.ntmps117 rfl fun R K hK=>?_
 refine WP.seq<|WP.reg<|WL.e e_assign<|WL.next<|WP.seq<|WP.reg<|WL.e e_move<|WL.e e_move ?_
 refine WL.h (h_call (IndexC_spec hA hn hy) k181 ?_)
 refine WL.e e_geq<|WL.e e_assign<|WL.next<|WP.ret ?_
 exact PO.finE Tryz.results117 (rv_tmp rv_nil) (by cases h:xs.any p <;> simp) hK
theorem bad_spec {g:World} (c:ChgM):Spec Tryz.prog g 118 [c.v] [] fun K R=>K (.bool (!chgOk c)) R:=by
 refine Spec.intro Tryz.func118 rfl Tryz.ntmps118 rfl fun R K hK=>?_
 refine WP.seq<|WP.reg ?_
 refine WL.h (h_box fun b1=>?_)
 refine WL.e e_assign<|WL.next<|WP.seq<|WP.reg<|WL.e (e_fa f123_0)<|WL.e (e_load a9) ?_
 refine WL.h (h_call (Check_spec _) k119 ?_)
 refine WL.e e_not<|WL.e e_move ?_
 refine WL.bool 7 rfl (fun g1=>?_) (fun g1=>?_)
 ·skip
  refine WL.skip<|WL.skip<|WL.skip<|WL.skip<|WL.skip<|WL.skip<|WL.skip<|WL.e e_pick_t<|WL.e e_assign<|WL.next<|WP.ret ?_
  exact PO.finE Tryz.results118 (rv_tmp rv_nil) (by simp_all [chgOk,bne]) hK
 ·skip
  refine WL.e (e_fa f123_2)<|WL.e (e_load a4)<|WL.e e_move ?_
  refine WL.bool 10 rfl (fun g2=>?_) (fun g2=>?_)
  ·skip
   refine WL.e (e_fa f123_1)<|WL.e (e_load a48)<|WL.e (e_neq32 (b:=0))<|WL.e e_pick_t<|WL.e e_pick_f<|WL.e e_assign<|WL.next<|WP.ret ?_
   exact PO.finE Tryz.results118 (rv_tmp rv_nil) (by simp_all [chgOk,bne]) hK
  ·skip
   refine WL.skip<|WL.skip<|WL.skip<|WL.e e_pick_f<|WL.e e_pick_f<|WL.e e_assign<|WL.next<|WP.ret ?_
   exact PO.finE Tryz.results118 (rv_tmp rv_nil) (by simp_all [chgOk,bne]) hK
end Go.SL
namespace Go.SL.Fc
end Go.SL.Fc
namespace Go.SL
open Go Go.Proofs Fc
theorem Delete_spec {g:World} {u:Value} {xs:List RowM} {i:Nat} {x:RowM} (hx:xs[i]?=some x) (hn:xs.length≤68719476736) :
  Spec Tryz.prog g 185 [u,.int .i64 i,.int .i64 (i+1:Nat)] [Sl 78 2 RowM.c u xs] fun K R=>∀ a m c,K (.slice a m c) (Sl 78 2 RowM.c (.slice a m c) (xs.eraseIdx i)::R):=by
 obtain ⟨A,D,rfl,rfl⟩:=split_el hx
 rw [erase_mid]
 refine Spec.intro Tryz.func185 rfl Tryz.ntmps185 rfl fun R K hK=>?_
 refine WP.own_open (n:=(A++x::D).length) (by simp;omega) (by exact .z) ?_
 rintro b o c l rfl hnc hc hl hcs
 have hlen:(A++x::D).length=A.length+1+D.length:=by simp;omega
 have hRL:RL (cl b 78 l) 2 RowM.c (.slice (some ⟨b,o,none⟩) (A++x::D).length c) (A++x::D):=rd_part rowE (At.lit hnc) hl rfl hcs
 have hA0:At (subAt (.slice (some ⟨b,o,none⟩) (A++x::D).length c) 0 A.length c 2) b o A.length c:=by have:=(At.lit (b:=b) (o:=o) hnc).sub (lo:=0) (hi:=A.length) (m:=c) (z:=2) (by omega) (by omega) (Nat.le_refl _);simpa using this
 have hAD:At (subAt (.slice (some ⟨b,o,none⟩) (A++x::D).length c) (A.length+1) (A++x::D).length c 2) b (o+(A.length+1) * 2) D.length (c - (A.length+1)):=by have:=(At.lit (b:=b) (o:=o) hnc).sub (lo:=A.length+1) (hi:=(A++x::D).length) (m:=c) (z:=2) (by omega) (by omega) (Nat.le_refl _);rwa [show (A++x::D).length - (A.length+1)=D.length by omega] at this
 have hD:Rd (cl b 78 l) 2 (subAt (.slice (some ⟨b,o,none⟩) (A++x::D).length c) (A.length+1) (A++x::D).length c 2) D.length (D.flatMap RowM.c):=rd_part rowE hAD (by omega) rfl (cells_tail rowE hcs)
 refine WP.seq<|WP.reg<|WL.e e_assign<|WL.next<|WP.seq<|WP.reg<|WL.e e_move<|WL.e e_move<|WL.e e_move<|WL.e e_move<|WL.e (el_len sl59 hRL)<|WL.e (e_slice_at (lo:=A.length) (hi:=A.length+1) (m:=(A++x::D).length) (c:=c) (n:=(A++x::D).length) sl59 rfl (At.lit hnc) (.inr ⟨_,_,rfl,rfl⟩) (.inr ⟨_,_,rfl,rfl⟩) (.inr ⟨_,_,rfl,rfl⟩) (by omega) (by omega) hnc)<|WL.next<|WP.seq<|WP.seq<|WP.reg<|WL.e e_move<|WL.e e_move<|WL.e e_eql<|WL.next ?_
 refine WP.cond rfl (fun h1=>?_) (fun h1=>?_)
 ·rw [beq_iff_eq] at h1;omega
 ·skip
  refine WP.skip<|PO.next<|WP.seq<|WP.reg<|WL.e e_move<|WL.e (el_len sl59 hRL)<|WL.e e_assign<|WL.next<|WP.seq<|WP.draws mixedOk 8<|RW.e 0 rfl e_move<|RW.e 1 rfl e_move<|RW.e 2 rfl (e_slice_at (lo:=0) (hi:=A.length) (m:=c) (c:=c) (n:=(A++x::D).length) sl59 rfl (At.lit hnc) (.inl ⟨rfl,rfl⟩) (.inr ⟨_,_,rfl,rfl⟩) (.inl ⟨rfl,rfl⟩) (by omega) (by omega) (Nat.le_refl _))<|RW.e 3 rfl e_move<|RW.e 4 rfl e_move<|RW.e 5 rfl (e_slice_at (lo:=A.length+1) (hi:=(A++x::D).length) (m:=c) (c:=c) (n:=(A++x::D).length) sl59 rfl (At.lit hnc) (.inr ⟨_,_,rfl,rfl⟩) (.inl ⟨rfl,rfl,rfl⟩) (.inl ⟨rfl,rfl⟩) (by omega) (by omega) (Nat.le_refl _)) ?_
  refine RW.any (is:=[6]) rfl ⟨?_,trivial⟩
  refine RWat.h rfl rfl rfl ?_
  refine (h_append_at (n:=A.length) (c:=c) (k:=D.length) (o:=o) (l:=l) (ds:=D.flatMap RowM.c) sl59 hA0 hl hD (ones_flat rowE D) (by omega) (fun a2 hAt=>?_))
  refine ⟨trivial,?_⟩
  refine RW.any (is:=[7]) rfl ⟨?_,trivial⟩
  refine RWat.h rfl rfl rfl<|HO.of_eo e_assign ?_
  refine ⟨trivial,?_⟩
  refine RW.done<|PO.next<|WP.seq<|WP.reg<|WL.e e_move<|WL.e e_move<|WL.e (e_len_sl sl59)<|WL.e e_move<|WL.e (e_slice_at (lo:=A.length+D.length) (hi:=(A++x::D).length) (m:=c) (c:=c) (n:=A.length+D.length) sl59 rfl hAt (.inr ⟨_,_,rfl,rfl⟩) (.inr ⟨_,_,rfl,rfl⟩) (.inl ⟨rfl,rfl⟩) (by omega) (by omega) (Nat.le_refl _)) ?_
  obtain ⟨hd1,hd2⟩:=del_cells (zs:=[.string .empty,.int .u32 0]) rowE hl hnc hcs rfl
  refine WL.h' (h_clear (T:=59) (n:=1) (c:=c - (A.length+D.length)) (o:=o+(A.length+D.length) * 2) (b:=b) (l:=splice l (o+A.length * 2) (D.flatMap RowM.c)) sl59 z78 (by have:=hAt.sub (lo:=A.length+D.length) (hi:=(A++x::D).length) (m:=c) (z:=2) (by omega) (by omega) (Nat.le_refl _);rwa [show (A++x::D).length - (A.length+D.length)=1 by omega] at this) (by rw [splice_len _ _ _ (by rw [flat_len rowE];omega)];omega) ?_)
  rw [show (List.replicate 1 [Value.string .empty,Value.int .u32 0]).flatten=[.string .empty,.int .u32 0] from rfl]
  refine WL.next<|WP.seq<|WP.reg<|WL.e e_move<|WL.e e_assign<|WL.next<|WP.ret ?_
  refine PO.cls (A:=Sl 78 2 RowM.c (.slice a2 (A.length+D.length) c) (A++D)) (B:=[cl b 78 _]) (fun S h=>?_) ?_
  ·have h:=stars_one h
   unfold Sl
   rw [List.length_append]
   refine at_own hAt hc ?_ ?_ S h
   ·rw [hd2];exact hl
   ·rw [List.length_append] at hd1;exact hd1
  exact PO.fin Tryz.results185 (rv_tmp rv_nil) (hK a2 (A.length+D.length) c)
end Go.SL

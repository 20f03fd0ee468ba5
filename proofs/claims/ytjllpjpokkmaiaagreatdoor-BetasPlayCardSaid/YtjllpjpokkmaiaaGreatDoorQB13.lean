import Derived.Test.YtjllpjpokkmaiaaGreatDoorQB12
set_option linter.unusedSimpArgs false
set_option linter.unusedVariables false
set_option linter.unusedSectionVars false
namespace Go.SL
open Go Go.Proofs
theorem stars_sublist {L M:List HP} (h:M.Sublist L):∀ {S:Piece},stars L S→stars M S:=by
  induction h with
  | slnil=>exact fun h=>h
  | cons _ _ ih=>exact fun h=>ih (stars_tail h)
  | cons_cons _ _ ih=>exact fun h=>stars_cons (fun _ h=>ih h) h
section
variable {κ σ : Type} [DecidableEq κ] {TP : TxU κ σ → List HP}
theorem stars_h1U {ts:List (TxU κ σ)} {S:Piece} (h:stars [TxsU TP ts] S):TxsU TP ts S:=by
  have:=stars_bun (L:=ts.map fun t=>bun (TP t)) (M:=[]) h
  rw [List.append_nil] at this;exact this
theorem TxsU_sub {ts us:List (TxU κ σ)} (h:us.Sublist ts) {S:Piece} (hS:TxsU TP ts S):TxsU TP us S:=stars_sublist (h.map _) hS
theorem TxsU_del {ts:List (TxU κ σ)} {n:κ} {S:Piece} (hS:TxsU TP ts S):TxsU TP (delU ts n) S:=TxsU_sub delU_sub hS
end
section
variable {P : Program} {g : World} {Γ : Env} {L M : List HP} {dst : Option Tmp} {t : TypeId} {pos : String} {aft : Array Edge} {gd : Option (Nat × Bool)}
theorem e_lookU {σ:Type} {x i:Operand} {T e kt:TypeId} {d:TypeDesc} {n:UInt32} {ts:List (TxU UInt32 σ)} {m:Value} (ht:P.underlying T=some (.map kt e)) (hk:KeyOk P kt d eU32) (hz:(P.info? e).bind (·.zero)=some (.pointer none)) (hx:ev Γ x=some m:=by rfl) (hi:ev Γ i=some (.int .u32 n.toNat):=by rfl) (hp:Pick L (Mp eU32 m (List.map kvU ts)) M:=by repeat first | exact .z | apply Pick.s) :
    EO P g ⟨dst,.lookup T x i false,t,pos,aft,gd⟩ Γ L (.pointer ((findU ts n).map fun t=>⟨t.q,0,none⟩)):=by
  have h:=e_lookup (g:=g) (L:=L) (dst:=dst) (t:=t) (pos:=pos) (aft:=aft) (gd:=gd) (x:=x) (i:=i) (k:=n) ht hk hz hx hi hp
  rw [mget_kvU] at h
  cases hf:findU ts n with
  | none=>rw [hf] at h;exact h
  | some t=>rw [hf] at h;exact h
end
def allSpan:SpanM:=⟨⟨#[48]⟩,⟨#[122,122,122,122,122,122,122,122,122,122,122,122,122,122,122,122]⟩⟩
theorem runes_in (s:ByteArray):∀ (k i:Nat),s.size≤i+k→allFrom keyRune s k i=true→∀ j,i≤j→(hj:j < s.size)→48≤(s[j]).toNat∧(s[j]).toNat≤122
  | 0,i,hk,_,j,h1,h2=>absurd h2 (by omega)
  | k+1,i,hk,h,j,h1,h2=>by
    have hi:i < s.size:=by omega
    rw [allFrom,if_pos hi,Bool.and_eq_true] at h
    by_cases ha:(s[i]'hi).toNat < 128
    · rw [decode_ascii s i hi ha] at h
      rcases Nat.eq_or_lt_of_le h1 with e | e
      · subst e
        have:=h.1
        simp only [keyRune,Bool.or_eq_true,Bool.and_eq_true,decide_eq_true_eq,beq_iff_eq] at this
        omega
      · exact runes_in s k (i+1) (by omega) h.2 j e h2
    · have h3:=(decode_high s i hi (by omega)).1
      have:=h.1
      simp only [keyRune,Bool.or_eq_true,Bool.and_eq_true,decide_eq_true_eq,beq_iff_eq] at this
      omega
theorem bl_z:∀ (n:Nat) (l:List UInt8),l.length≤n→(∀ b ∈ l,b.toNat≤122)→Op.bytesLess (List.replicate n 122) l=false
  | 0,[],_,_=>rfl
  | 0,_::_,h,_=>by simp at h
  | n+1,[],_,_=>by simp [List.replicate_succ,Op.bytesLess]
  | n+1,b::l,h,hb=>by
    have h1:=hb b (by simp)
    have ih:=bl_z n l (by simp at h;omega) (fun c hc=>hb c (by simp [hc]))
    simp only [List.replicate_succ,Op.bytesLess,ih,Bool.and_false,Bool.or_false,decide_eq_false_iff_not,UInt8.lt_iff_toNat_lt]
    show ¬ 122 < b.toNat
    omega
theorem all_in {k:ByteArray} (h:keyOk k=true):inSpan allSpan k=true:=by
  simp only [keyOk,Bool.and_eq_true,Bool.not_eq_true',decide_eq_true_eq] at h
  obtain ⟨⟨h1,h2⟩,h3⟩:=h
  have hl:∀ b ∈ k.toList,48≤b.toNat∧b.toNat≤122:=fun b hb=>by
    rw [ByteArray.toList_eq] at hb
    obtain ⟨j,hj,e⟩:=Array.getElem_of_mem (Array.mem_toList_iff.1 hb)
    have:=runes_in k k.size 0 (by omega) h3 j (Nat.zero_le _) hj
    have e2:k[j]'hj=b:=e
    rw [e2] at this;exact this
  have hlen:k.toList.length=k.size:=by rw [ByteArray.toList_eq];exact Array.length_toList
  rw [inSpan,sIn_iff]
  constructor
  · unfold sLt
    cases hk:k.toList with
    | nil=>
      exfalso
      have:sEq k ⟨#[]⟩=true:=by rw [sEq,hk,ByteArray.toList_eq];rfl
      rw [h1] at this;cases this
    | cons b l=>
      have:=(hl b (by rw [hk];simp)).1
      have e:(allSpan.a).toList=[48]:=by rw [ByteArray.toList_eq];rfl
      rw [e]
      have e2:Op.bytesLess l []=false:=by cases l <;> rfl
      simp only [Op.bytesLess,e2,Bool.and_false,Bool.or_false,decide_eq_false_iff_not,UInt8.lt_iff_toNat_lt]
      show ¬ b.toNat < 48
      omega
  · unfold sLt
    have e:(allSpan.b).toList=List.replicate 16 122:=by rw [ByteArray.toList_eq];rfl
    rw [e]
    exact bl_z 16 _ (by omega) fun b hb=>(hl b hb).2
theorem scan_all {V:List RowM} (hr:Rising V) (hk:KeysOk V) (hl:V.length≤2147483647):scanR V allSpan 2147483647=V:=by
  unfold scanR
  rw [List.filter_eq_self.2 (fun r hr=>all_in (hk r hr))]
  exact List.take_of_length_le hl
end Go.SL
namespace Go.SL.Fc
open Go Go.Proofs Go.SL
theorem a104:aggOf Tryz.prog 104=some none:=by kernel_rfl
theorem a29:aggOf Tryz.prog 29=some none:=by kernel_rfl
theorem a51:aggOf Tryz.prog 51=some (some 4):=by kernel_rfl
theorem a61:aggOf Tryz.prog 61=some (some 1):=by kernel_rfl
theorem f112_1:fldOf Tryz.prog 112 1=some 1:=by kernel_rfl
theorem f89_0:fldOf Tryz.prog 89 0=some 0:=by kernel_rfl
theorem k117:callable Tryz.prog 117=true:=by kernel_rfl
theorem k33:callable Tryz.prog 33=true:=by kernel_rfl
theorem k34:callable Tryz.prog 34=true:=by kernel_rfl
theorem k35:callable Tryz.prog 35=true:=by kernel_rfl
theorem k36:callable Tryz.prog 36=true:=by kernel_rfl
theorem k38:callable Tryz.prog 38=true:=by kernel_rfl
theorem k39:callable Tryz.prog 39=true:=by kernel_rfl
theorem k42:callable Tryz.prog 42=true:=by kernel_rfl
theorem k43:callable Tryz.prog 43=true:=by kernel_rfl
theorem k44:callable Tryz.prog 44=true:=by kernel_rfl
theorem k45:callable Tryz.prog 45=true:=by kernel_rfl
theorem k47:callable Tryz.prog 47=true:=by kernel_rfl
theorem k48:callable Tryz.prog 48=true:=by kernel_rfl
theorem k54:callable Tryz.prog 54=true:=by kernel_rfl
theorem k55:callable Tryz.prog 55=true:=by kernel_rfl
theorem k56:callable Tryz.prog 56=true:=by kernel_rfl
theorem p112:placesOf Tryz.prog 112=some [(0,1),(1,1),(2,1)]:=by kernel_rfl
theorem p127:placesOf Tryz.prog 127=some [(0,1),(1,1),(2,1)]:=by kernel_rfl
theorem p61:placesOf Tryz.prog 61=some [(0,1)]:=by kernel_rfl
theorem p89:placesOf Tryz.prog 89=some [(0,1),(1,1),(2,1)]:=by kernel_rfl
theorem pt100:isPtr Tryz.prog 100=true:=by kernel_rfl
theorem s100:szOf Tryz.prog 100=some 1:=by kernel_rfl
theorem s104:szOf Tryz.prog 104=some 1:=by kernel_rfl
theorem s61:szOf Tryz.prog 61=some 1:=by kernel_rfl
theorem s91:szOf Tryz.prog 91=some 1:=by kernel_rfl
theorem sl104:slOf Tryz.prog 104=some (110,2,32):=by kernel_rfl
theorem z112:zeroOf Tryz.prog 112=some [.int .u32 0,.slice none 0 0,.slice none 0 0]:=by kernel_rfl
theorem z61:zeroOf Tryz.prog 61=some [.slice none 0 0]:=by kernel_rfl
theorem z89:zeroOf Tryz.prog 89=some [.pointer none,.pointer none,.map none]:=by kernel_rfl
theorem zz100:(Tryz.prog.info? 100).bind (·.zero)=some (.pointer none):=by kernel_rfl
end Go.SL.Fc
namespace Go.SL
open Go Go.Proofs Fc
theorem Bbegins_spec {g:World} {p dp:Nat} {s:StV} (n:UInt32) (hf:findU s.txs n=none):Spec Tryz.prog g 39 [.pointer (some ⟨p,0,none⟩),.int .u32 n.toNat] [Bs p dp s,TxsU TPB s.txs] fun K R=>∀ q,K (.tuple #[]) (Bs p dp { s with txs:=s.txs++[begT s n q] }::TxsU TPB (s.txs++[begT s n q])::R):=by
 refine Spec.intro Tryz.func39 rfl Tryz.ntmps39 rfl fun R K hK=>?_
 refine WP.opn (Bs_op (p:=p) (dp:=dp) (s:=s)) fun x=>?_
 obtain ⟨lp,pp,mb⟩:=x
 dsimp only
 refine WP.draws mixedOk 13<|RW.e 0 rfl e_move<|RW.e 1 rfl e_nil<|RW.e 2 rfl (e_fa f89_2)<|RW.e 3 rfl (e_load a87)<|RW.e 4 rfl e_move<|RW.e 5 rfl e_move<|RW.e 6 rfl e_nil<|RW.e 7 rfl (e_fa f89_1)<|RW.e 8 rfl (e_load a85) ?_
 refine RW.any (is:=[9]) rfl ⟨?_,trivial⟩
 refine RWat.h rfl rfl rfl ?_
 refine (h_call (PNow_spec) k64 ?_)
 refine ⟨⟨⟨_,rfl,.inl ⟨rfl,e_move⟩⟩,⟨_,rfl,.inl ⟨rfl,(e_load a87)⟩⟩,⟨_,rfl,.inl ⟨rfl,(e_fa f89_2)⟩⟩,⟨_,rfl,.inl ⟨rfl,e_nil⟩⟩,⟨_,rfl,.inl ⟨rfl,e_move⟩⟩,trivial⟩,?_⟩
 refine RW.e 10 rfl (e_build z112 p112 (.o (.tmp 13) rfl<|.z (.slice none 0 0)<|.z (.slice none 0 0)<|.n)) ?_
 refine RW.any (is:=[11]) rfl ⟨?_,trivial⟩
 refine RWat.h rfl rfl rfl ?_
 refine (h_box fun b1=>?_)
 refine ⟨⟨⟨_,rfl,.inl ⟨rfl,e_move⟩⟩,⟨_,rfl,.inl ⟨rfl,(e_load a87)⟩⟩,⟨_,rfl,.inl ⟨rfl,(e_fa f89_2)⟩⟩,⟨_,rfl,.inl ⟨rfl,e_nil⟩⟩,⟨_,rfl,.inl ⟨rfl,e_move⟩⟩,trivial⟩,?_⟩
 refine RW.any (is:=[12]) rfl ⟨?_,trivial⟩
 refine RWat.h' rfl rfl rfl ?_
 refine (h_mapUpdate (k:=n) (kvs:=List.map kvU s.txs) Tryz.underlying87 (key_u32 Tryz.underlying48) ?_)
 rw [show mset (List.map kvU s.txs) n (.pointer (some ⟨b1,0,none⟩))=List.map kvU (s.txs++[begT s n b1]) from mset_kvU s.txs (begT s n b1) hf]
 refine ⟨trivial,?_⟩
 refine RW.done<|PO.nils 110 2 SpanM.c none ?_
 refine PO.nils 127 3 ChgM.c none ?_
 refine PO.cls (A:=Bs p dp ({ s with txs:=s.txs++[begT s n b1] })) (B:=[cl p 89 [.pointer (some ⟨lp,0,none⟩),.pointer (some ⟨pp,0,none⟩),.map (some mb)],cl lp 147 [.pointer (some ⟨dp,0,none⟩),.int .i64 s.at_],Dk dp s.d,Pa pp s.H s.trim,Mp eU32 (.map (some mb)) (List.map kvU (s.txs++[begT s n b1]))]) (fun S h=>⟨(lp,pp,mb),h⟩) ?_
 refine PO.cls (A:=TxB_ (begT s n b1)) (B:=[cl b1 112 [.int .u32 (UInt32.ofNat s.H.length).toNat,.slice none 0 0,.slice none 0 0],Sl 110 2 SpanM.c (.slice none 0 0) [],Sl 127 3 ChgM.c (.slice none 0 0) []]) (fun S h=>⟨(⟨none,0,0⟩,⟨none,0,0⟩),h⟩) ?_
 refine PO.cls (A:=TxsU TPB (s.txs++[begT s n b1])) (B:=[TxB_ (begT s n b1),TxsU TPB s.txs]) (fun S h=>TxsU_in (TP:=TPB) (A:=s.txs) (B:=[]) (t:=begT s n b1) S (by rw [List.append_nil];exact h)) ?_
 exact PO.fin Tryz.results39 rv_nil (hK b1)
theorem BBegin_spec {g:World} {p dp:Nat} {s:StV} (n:UInt32):Spec Tryz.prog g 9 [.pointer (some ⟨p,0,none⟩),.int .u32 n.toNat] [Bs p dp s,TxsU TPB s.txs] fun K R=>∀ q,K (.int .i64 (begE s n)) (Bs p dp (begS s n q)::TxsU TPB (begS s n q).txs::R):=by
 refine Spec.intro Tryz.func9 rfl Tryz.ntmps9 rfl fun R K hK=>?_
 refine WP.seq<|WP.reg<|WL.e e_assign<|WL.next<|WP.seq<|WP.block<|WP.seq<|WP.reg<|WL.e e_move ?_
 refine WL.h (h_call (Bthere_spec) k38 ?_)
 refine WL.e e_not<|WL.e e_assign<|WL.next<|WP.cond_f rfl<|WP.seq<|WP.reg<|WL.e e_move<|WL.e (e_eql32 (b:=0))<|WL.e e_assign<|WL.next ?_
 refine WP.cond rfl (fun h1=>?_) (fun h1=>?_)
 ·replace h1:n=0:=by simpa using h1
  have hE:begE s n=1:=by simp [begE,h1]
  refine WP.seq<|WP.reg<|WL.e e_assign<|WL.next<|WP.ret<|PO.blockR<|PO.past nofun ?_
  have hK:=hK 0
  rw [hE,show begS s n 0=s by simp [begS,hE]] at hK
  exact PO.fin Tryz.results9 (rv_tmp rv_nil) hK
 ·replace h1:n≠0:=by simpa using h1
  refine WP.opn (Bs_op (p:=p) (dp:=dp) (s:=s)) fun x=>?_
  obtain ⟨lp,pp,mb⟩:=x
  dsimp only
  refine WP.seq<|WP.reg<|WL.e e_move<|WL.e e_nil<|WL.e (e_fa f89_2)<|WL.e (e_load a87)<|WL.e e_move<|WL.e (e_lookU (n:=n) (ts:=s.txs) Tryz.underlying87 (key_u32 Tryz.underlying48) zz100)<|WL.e (e_pne pt100)<|WL.e e_assign<|WL.next ?_
  refine WP.cond rfl (fun h2=>?_) (fun h2=>?_)
  ·replace h2:(findU s.txs n).isSome=true:=by cases e:findU s.txs n with
    | none=>rw [e] at h2;cases h2
    | some t=>rfl
   have hE:begE s n=7:=by simp only [begE,h1,h2];simp
   refine WP.seq<|WP.reg<|WL.e e_assign<|WL.next<|WP.ret<|PO.blockR<|PO.past nofun<|PO.cls (A:=Bs p dp (s)) (B:=[cl p 89 [.pointer (some ⟨lp,0,none⟩),.pointer (some ⟨pp,0,none⟩),.map (some mb)],cl lp 147 [.pointer (some ⟨dp,0,none⟩),.int .i64 s.at_],Dk dp s.d,Pa pp s.H s.trim,Mp eU32 (.map (some mb)) (List.map kvU s.txs)]) (fun S h=>⟨(lp,pp,mb),h⟩) ?_
   have hK:=hK 0
   rw [hE,show begS s n 0=s by simp [begS,hE]] at hK
   exact PO.fin Tryz.results9 (rv_tmp rv_nil) hK
  ·have hf:findU s.txs n=none:=by cases e:findU s.txs n with
    | none=>rfl
    | some t=>rw [e] at h2;cases h2
   refine WP.seq<|WP.reg<|WL.e e_move<|WL.e e_nil<|WL.e (e_fa f89_2)<|WL.e (e_load a87)<|WL.e (e_len_map Tryz.underlying87)<|WL.e e_geq<|WL.e e_assign<|WL.next ?_
   refine WP.cond rfl (fun h3=>?_) (fun h3=>?_)
   ·replace h3:32≤s.txs.length:=by simp at h3;omega
    have hE:begE s n=5:=by simp [begE,h1,hf,h3]
    refine WP.seq<|WP.reg<|WL.e e_assign<|WL.next<|WP.ret<|PO.blockR<|PO.past nofun<|PO.cls (A:=Bs p dp (s)) (B:=[cl p 89 [.pointer (some ⟨lp,0,none⟩),.pointer (some ⟨pp,0,none⟩),.map (some mb)],cl lp 147 [.pointer (some ⟨dp,0,none⟩),.int .i64 s.at_],Dk dp s.d,Pa pp s.H s.trim,Mp eU32 (.map (some mb)) (List.map kvU s.txs)]) (fun S h=>⟨(lp,pp,mb),h⟩) ?_
    have hK:=hK 0
    rw [hE,show begS s n 0=s by simp [begS,hE]] at hK
    exact PO.fin Tryz.results9 (rv_tmp rv_nil) hK
   ·replace h3:¬ 32≤s.txs.length:=by simp at h3;omega
    have hE:begE s n=0:=by simp only [begE,h1,hf,h3];simp
    refine WP.cls (A:=Bs p dp (s)) (B:=[cl p 89 [.pointer (some ⟨lp,0,none⟩),.pointer (some ⟨pp,0,none⟩),.map (some mb)],cl lp 147 [.pointer (some ⟨dp,0,none⟩),.int .i64 s.at_],Dk dp s.d,Pa pp s.H s.trim,Mp eU32 (.map (some mb)) (List.map kvU s.txs)]) (fun S h=>⟨(lp,pp,mb),h⟩) ?_
    refine WP.skip<|PO.blockN<|PO.next<|WP.seq<|WP.reg<|WL.e e_move<|WL.e e_move ?_
    refine WL.h (h_call (Bbegins_spec n hf) k39 ?_)
    intro q
    refine WL.next<|WP.seq<|WP.reg<|WL.e e_assign<|WL.next<|WP.ret ?_
    have hK:=hK q
    rw [hE,begS,if_pos hE] at hK
    exact PO.fin Tryz.results9 (rv_tmp rv_nil) hK
theorem BAbort_spec {g:World} {p dp b:Nat} {s:StV} (n:UInt32) (hs:BetOk s b):Spec Tryz.prog g 13 [.pointer (some ⟨p,0,none⟩),.int .u32 n.toNat] [Bs p dp s,TxsU TPB s.txs] fun K R=>K (.int .i64 (aboE s n)) (Bs p dp (aboS betaI s n)::TxsU TPB (aboS betaI s n).txs::R):=by
 refine Spec.intro Tryz.func13 rfl Tryz.ntmps13 rfl fun R K hK=>?_
 refine WP.seq<|WP.reg<|WL.e e_assign<|WL.next<|WP.seq<|WP.block<|WP.seq<|WP.reg<|WL.e e_move ?_
 refine WL.h (h_call (Bthere_spec) k38 ?_)
 refine WL.e e_not<|WL.e e_assign<|WL.next<|WP.cond_f rfl<|WP.opn (Bs_op (p:=p) (dp:=dp) (s:=s)) fun x=>?_
 obtain ⟨lp,pp,mb⟩:=x
 dsimp only
 refine WP.seq<|WP.reg<|WL.e e_move<|WL.e e_nil<|WL.e (e_fa f89_2)<|WL.e (e_load a87)<|WL.e e_move<|WL.e (e_lookU (n:=n) (ts:=s.txs) Tryz.underlying87 (key_u32 Tryz.underlying48) zz100)<|WL.e (e_peq pt100)<|WL.e e_assign<|WL.next ?_
 refine WP.cond rfl (fun h2=>?_) (fun h2=>?_)
 ·have hf:findU s.txs n=none:=by simpa using h2
  rw [show aboE s n=6 by simp [aboE,hf],show aboS betaI s n=s by simp [aboS,hf]] at hK
  refine WP.seq<|WP.reg<|WL.e e_assign<|WL.next<|WP.ret<|PO.blockR<|PO.past nofun<|PO.cls (A:=Bs p dp (s)) (B:=[cl p 89 [.pointer (some ⟨lp,0,none⟩),.pointer (some ⟨pp,0,none⟩),.map (some mb)],cl lp 147 [.pointer (some ⟨dp,0,none⟩),.int .i64 s.at_],Dk dp s.d,Pa pp s.H s.trim,Mp eU32 (.map (some mb)) (List.map kvU s.txs)]) (fun S h=>⟨(lp,pp,mb),h⟩) ?_
  exact PO.fin Tryz.results13 (rv_tmp rv_nil) hK
 ·obtain ⟨t,hf⟩:∃ t,findU s.txs n=some t:=by cases e:findU s.txs n with
   | none=>rw [e] at h2;cases h2
   | some t=>exact ⟨t,rfl⟩
  rw [hf,Option.map_some]
  obtain ⟨hid,A,B,hts,hdel,_⟩:=findU_mid hf
  rw [show aboE s n=0 by simp [aboE,hf],show aboS betaI s n=endsB s n by simp [aboS,hf,betaI]] at hK
  refine WP.cls (A:=Bs p dp (s)) (B:=[cl p 89 [.pointer (some ⟨lp,0,none⟩),.pointer (some ⟨pp,0,none⟩),.map (some mb)],cl lp 147 [.pointer (some ⟨dp,0,none⟩),.int .i64 s.at_],Dk dp s.d,Pa pp s.H s.trim,Mp eU32 (.map (some mb)) (List.map kvU s.txs)]) (fun S h=>⟨(lp,pp,mb),h⟩) ?_
  refine WP.cls (A:=TxsU TPB (delU s.txs n)) (B:=[TxsU TPB s.txs]) (fun S h=>TxsU_del (stars_h1U h)) ?_
  refine WP.skip<|PO.blockN<|PO.next<|WP.seq<|WP.reg<|WL.e e_move<|WL.e e_move ?_
  refine WL.h (h_call (Bends_spec n hs (by have:=hs.st.tl;omega)) k45 ?_)
  refine WL.next<|WP.seq<|WP.reg<|WL.e e_assign<|WL.next<|WP.ret ?_
  exact PO.fin Tryz.results13 (rv_tmp rv_nil) hK
set_option maxHeartbeats 4000000 in
theorem BDo_spec {g:World} {p dp b:Nat} {s:StV} (n:UInt32) (x:OpM) (hs:BetOk s b):Spec Tryz.prog g 17 [.pointer (some ⟨p,0,none⟩),.int .u32 n.toNat,x.v] [Bs p dp s,TxsU TPB s.txs] fun K R=>match doB s n x with
   | .err s' e=>K (.tuple #[.agg #[.slice none 0 0],.int .i64 e]) (Bs p dp s'::TxsU TPB s'.txs::R)
   | .put s'=>K (.tuple #[.agg #[.slice none 0 0],.int .i64 0]) (Bs p dp s'::TxsU TPB s'.txs::R)
   | .look s' rows=>∀ a m c,K (.tuple #[.agg #[.slice a m c],.int .i64 0]) (Sl 142 2 RowM.c (.slice a m c) rows::Bs p dp s'::TxsU TPB s'.txs::R):=by
 refine Spec.intro Tryz.func17 rfl Tryz.ntmps17 rfl fun R K hK=>?_
 refine WP.seq<|WP.reg ?_
 refine WL.h (h_box fun b1=>?_)
 refine WL.h (h_alloc z61 fun b2=>?_)
 refine WL.e e_assign<|WL.next<|WP.seq<|WP.block<|WP.seq<|WP.reg<|WL.e e_move ?_
 refine WL.h (h_call (Bthere_spec) k38 ?_)
 refine WL.e e_not<|WL.e e_assign<|WL.next<|WP.cond_f rfl<|WP.seq<|WP.reg<|WL.e (e_loadN a51) ?_
 refine WL.h (h_call (opCheck_spec _) k54 ?_)
 refine WL.e e_not<|WL.e e_assign<|WL.next ?_
 refine WP.cond rfl (fun h1=>?_) (fun h1=>?_)
 ·replace h1:opOk x=false:=by simpa using h1
  rw [show doB s n x=.err s 1 by simp [doB,h1]] at hK
  refine WP.seq<|WP.reg<|WL.e (e_build z61 p61 (.z (.slice none 0 0)<|.n)) ?_
  refine WL.h' (h_store s61 ?_)
  refine WL.e e_assign<|WL.next<|WP.ret<|PO.blockR<|PO.past nofun ?_
  exact PO.fin Tryz.results17 (rv_cellN a61 (rv_tmp rv_nil)) hK
 ·replace h1:opOk x=true:=by simpa using h1
  refine WP.opn (Bs_op (p:=p) (dp:=dp) (s:=s)) fun x=>?_
  obtain ⟨lp,pp,mb⟩:=x
  dsimp only
  refine WP.skip<|PO.blockN<|PO.next<|WP.seq<|WP.reg<|WL.e e_move<|WL.e e_nil<|WL.e (e_fa f89_2)<|WL.e (e_load a87)<|WL.e e_move<|WL.e (e_lookU (n:=n) (ts:=s.txs) Tryz.underlying87 (key_u32 Tryz.underlying48) zz100)<|WL.e e_assign<|WL.next<|WP.seq<|WP.seq<|WP.reg<|WL.e e_move<|WL.e (e_peq pt100)<|WL.next ?_
  refine WP.cond rfl (fun h2=>?_) (fun h2=>?_)
  ·have hf:findU s.txs n=none:=by simpa using h2
   rw [show doB s n x=.err s 6 by simp [doB,h1,hf]] at hK
   refine WP.seq<|WP.reg<|WL.e (e_build z61 p61 (.z (.slice none 0 0)<|.n)) ?_
   refine WL.h' (h_store s61 ?_)
   refine WL.e e_assign<|WL.next<|WP.ret<|PO.past nofun<|PO.cls (A:=Bs p dp (s)) (B:=[cl p 89 [.pointer (some ⟨lp,0,none⟩),.pointer (some ⟨pp,0,none⟩),.map (some mb)],cl lp 147 [.pointer (some ⟨dp,0,none⟩),.int .i64 s.at_],Dk dp s.d,Pa pp s.H s.trim,Mp eU32 (.map (some mb)) (List.map kvU s.txs)]) (fun S h=>⟨(lp,pp,mb),h⟩) ?_
   exact PO.fin Tryz.results17 (rv_cellN a61 (rv_tmp rv_nil)) hK
  ·obtain ⟨t,hf⟩:∃ t,findU s.txs n=some t:=by cases e:findU s.txs n with
    | none=>rw [e] at h2;cases h2
    | some t=>exact ⟨t,rfl⟩
   rw [hf,Option.map_some]
   obtain ⟨hid,A,B,hts,hdel,_⟩:=findU_mid hf
   have hol:=hs.st.own_le (findU_mem hf)
   have hlk:=hs.st.lks t (findU_mem hf)
   have hbb:=hs.st.bb
   have hset:∀ y,setU s.txs n y=A++{ t with x:=y }::B:=fun y=>by rw [← hid,hts];exact setU_mid (hts ▸ hs.st.ids) y
   refine WP.opn (TxsU_out (TP:=TPB) hts) fun _=>?_
   refine WP.opn (TxB__op (t:=t)) fun x=>?_
   obtain ⟨s1,s2⟩:=x
   dsimp only
   refine WP.skip<|PO.next<|WP.seq<|WP.seq<|WP.reg<|WL.e (e_fa f51_0)<|WL.e (e_load a49)<|WL.next<|WP.block<|WP.seq<|WP.reg<|WL.e (e_eql8 (b:=2))<|WL.e e_assign<|WL.next ?_
   refine WP.cond rfl (fun h4=>?_) (fun h4=>?_)
   ·replace h4:x.kind=2:=by simpa using h4
    have hw:writes x=true:=by simp [writes,h4]
    rw [show doB s n x=.put { s with txs:=setU s.txs n { t.x with own:=t.x.own++[chgOf x] } } by simp [doB,h1,hf,hw],hset,show chgOf x=⟨x.key,x.val,false⟩ by simp [chgOf,h4]] at hK
    dsimp only at hK
    refine WP.draws mixedOk 15<|RW.e 0 rfl e_move<|RW.e 1 rfl e_move<|RW.e 2 rfl e_nil<|RW.e 3 rfl (e_fa f112_2)<|RW.e 4 rfl (e_load a91)<|RW.e 5 rfl (e_fa f51_1)<|RW.e 6 rfl (e_load a9)<|RW.e 7 rfl (e_fa f51_3)<|RW.e 8 rfl (e_load a48)<|RW.e 9 rfl (e_build z127 p127 (.o (.tmp 56) rfl<|.o (.tmp 58) rfl<|.z (.bool false)<|.n)) ?_
    refine RW.any (is:=[10]) rfl ⟨?_,trivial⟩
    refine RWat.h rfl rfl rfl ?_
    refine (h_bs sl91 z127 (.a3 (.tmp 59) rfl<|.n) fun b3=>?_)
    refine ⟨⟨⟨_,rfl,.inl ⟨rfl,(e_load a91)⟩⟩,⟨_,rfl,.inl ⟨rfl,(e_fa f112_2)⟩⟩,⟨_,rfl,.inl ⟨rfl,e_nil⟩⟩,⟨_,rfl,.inl ⟨rfl,e_move⟩⟩,⟨_,rfl,.inl ⟨rfl,e_move⟩⟩,trivial⟩,?_⟩
    refine RW.any (is:=[11]) rfl ⟨?_,trivial⟩
    refine RWat.h rfl rfl rfl ?_
    refine (hl_append (xs:=t.x.own) (ys:=[⟨x.key,x.val,false⟩]) sl91 chgE z127 (lit_rl chgE [⟨x.key,x.val,false⟩] rfl) (by simp;omega) (fun a5 n5 c5=>?_))
    refine ⟨⟨⟨_,rfl,.inl ⟨rfl,e_move⟩⟩,trivial⟩,?_⟩
    refine RW.e 12 rfl e_nil<|RW.e 13 rfl (e_fa f112_2) ?_
    refine RW.any (is:=[14]) rfl ⟨?_,trivial⟩
    refine RWat.h' rfl rfl rfl ?_
    refine (h_store s91 ?_)
    refine ⟨trivial,?_⟩
    refine RW.done<|PO.blockN<|PO.next<|WP.seq<|WP.reg<|WL.e (e_build z61 p61 (.z (.slice none 0 0)<|.n)) ?_
    refine WL.h' (h_store s61 ?_)
    refine WL.e e_assign<|WL.next<|WP.ret ?_
    rw [show List.map kvU s.txs=List.map kvU (A++{ t with x:={ t.x with own:=t.x.own++[⟨x.key,x.val,false⟩] } }::B) by rw [hts];simp [kvU]]
    refine PO.cls (A:=TxB_ { t with x:={ t.x with own:=t.x.own++[⟨x.key,x.val,false⟩] } }) (B:=[cl t.q 112 [.int .u32 t.x.at_.toNat,s1.v,.slice a5 n5 c5],Sl 110 2 SpanM.c s1.v t.x.looked,Sl 127 3 ChgM.c (.slice a5 n5 c5) (t.x.own++[⟨x.key,x.val,false⟩])]) (fun S h=>⟨(s1,⟨a5,n5,c5⟩),h⟩) ?_
    refine PO.cls (A:=TxsU TPB (A++{ t with x:={ t.x with own:=t.x.own++[⟨x.key,x.val,false⟩] } }::B)) (B:=[TxB_ { t with x:={ t.x with own:=t.x.own++[⟨x.key,x.val,false⟩] } },TxsU TPB (A++B)]) (fun S h=>TxsU_in (TP:=TPB) (t:={ t with x:={ t.x with own:=t.x.own++[⟨x.key,x.val,false⟩] } }) S h) ?_
    refine PO.cls (A:=Bs p dp ({ s with txs:=A++{ t with x:={ t.x with own:=t.x.own++[⟨x.key,x.val,false⟩] } }::B })) (B:=[cl p 89 [.pointer (some ⟨lp,0,none⟩),.pointer (some ⟨pp,0,none⟩),.map (some mb)],cl lp 147 [.pointer (some ⟨dp,0,none⟩),.int .i64 s.at_],Dk dp s.d,Pa pp s.H s.trim,Mp eU32 (.map (some mb)) (List.map kvU (A++{ t with x:={ t.x with own:=t.x.own++[⟨x.key,x.val,false⟩] } }::B))]) (fun S h=>⟨(lp,pp,mb),h⟩) ?_
    exact PO.fin Tryz.results17 (rv_cellN a61 (rv_tmp rv_nil)) hK
   ·replace h4:x.kind≠2:=by simpa using h4
    refine WP.seq<|WP.reg<|WL.e (e_eql8 (b:=3))<|WL.e e_assign<|WL.next ?_
    refine WP.cond rfl (fun h5=>?_) (fun h5=>?_)
    ·replace h5:x.kind=3:=by simpa using h5
     have hw:writes x=true:=by simp [writes,h5]
     rw [show doB s n x=.put { s with txs:=setU s.txs n { t.x with own:=t.x.own++[chgOf x] } } by simp [doB,h1,hf,hw],hset,show chgOf x=⟨x.key,0,true⟩ by simp [chgOf,h5]] at hK
     dsimp only at hK
     refine WP.draws mixedOk 13<|RW.e 0 rfl e_move<|RW.e 1 rfl e_move<|RW.e 2 rfl e_nil<|RW.e 3 rfl (e_fa f112_2)<|RW.e 4 rfl (e_load a91)<|RW.e 5 rfl (e_fa f51_1)<|RW.e 6 rfl (e_load a9)<|RW.e 7 rfl (e_build z127 p127 (.o (.tmp 72) rfl<|.z (.int .u32 0)<|.o (.const (.bool true)) rfl<|.n)) ?_
     refine RW.any (is:=[8]) rfl ⟨?_,trivial⟩
     refine RWat.h rfl rfl rfl ?_
     refine (h_bs sl91 z127 (.a3 (.tmp 73) rfl<|.n) fun b4=>?_)
     refine ⟨⟨⟨_,rfl,.inl ⟨rfl,(e_load a91)⟩⟩,⟨_,rfl,.inl ⟨rfl,(e_fa f112_2)⟩⟩,⟨_,rfl,.inl ⟨rfl,e_nil⟩⟩,⟨_,rfl,.inl ⟨rfl,e_move⟩⟩,⟨_,rfl,.inl ⟨rfl,e_move⟩⟩,trivial⟩,?_⟩
     refine RW.any (is:=[9]) rfl ⟨?_,trivial⟩
     refine RWat.h rfl rfl rfl ?_
     refine (hl_append (xs:=t.x.own) (ys:=[⟨x.key,0,true⟩]) sl91 chgE z127 (lit_rl chgE [⟨x.key,0,true⟩] rfl) (by simp;omega) (fun a5 n5 c5=>?_))
     refine ⟨⟨⟨_,rfl,.inl ⟨rfl,e_move⟩⟩,trivial⟩,?_⟩
     refine RW.e 10 rfl e_nil<|RW.e 11 rfl (e_fa f112_2) ?_
     refine RW.any (is:=[12]) rfl ⟨?_,trivial⟩
     refine RWat.h' rfl rfl rfl ?_
     refine (h_store s91 ?_)
     refine ⟨trivial,?_⟩
     refine RW.done<|PO.blockN<|PO.next<|WP.seq<|WP.reg<|WL.e (e_build z61 p61 (.z (.slice none 0 0)<|.n)) ?_
     refine WL.h' (h_store s61 ?_)
     refine WL.e e_assign<|WL.next<|WP.ret ?_
     rw [show List.map kvU s.txs=List.map kvU (A++{ t with x:={ t.x with own:=t.x.own++[⟨x.key,0,true⟩] } }::B) by rw [hts];simp [kvU]]
     refine PO.cls (A:=TxB_ { t with x:={ t.x with own:=t.x.own++[⟨x.key,0,true⟩] } }) (B:=[cl t.q 112 [.int .u32 t.x.at_.toNat,s1.v,.slice a5 n5 c5],Sl 110 2 SpanM.c s1.v t.x.looked,Sl 127 3 ChgM.c (.slice a5 n5 c5) (t.x.own++[⟨x.key,0,true⟩])]) (fun S h=>⟨(s1,⟨a5,n5,c5⟩),h⟩) ?_
     refine PO.cls (A:=TxsU TPB (A++{ t with x:={ t.x with own:=t.x.own++[⟨x.key,0,true⟩] } }::B)) (B:=[TxB_ { t with x:={ t.x with own:=t.x.own++[⟨x.key,0,true⟩] } },TxsU TPB (A++B)]) (fun S h=>TxsU_in (TP:=TPB) (t:={ t with x:={ t.x with own:=t.x.own++[⟨x.key,0,true⟩] } }) S h) ?_
     refine PO.cls (A:=Bs p dp ({ s with txs:=A++{ t with x:={ t.x with own:=t.x.own++[⟨x.key,0,true⟩] } }::B })) (B:=[cl p 89 [.pointer (some ⟨lp,0,none⟩),.pointer (some ⟨pp,0,none⟩),.map (some mb)],cl lp 147 [.pointer (some ⟨dp,0,none⟩),.int .i64 s.at_],Dk dp s.d,Pa pp s.H s.trim,Mp eU32 (.map (some mb)) (List.map kvU (A++{ t with x:={ t.x with own:=t.x.own++[⟨x.key,0,true⟩] } }::B))]) (fun S h=>⟨(lp,pp,mb),h⟩) ?_
     exact PO.fin Tryz.results17 (rv_cellN a61 (rv_tmp rv_nil)) hK
    ·replace h5:x.kind≠3:=by simpa using h5
     have hw:writes x=false:=by simp [writes,h4,h5]
     rw [show doB s n x=.look { s with txs:=setU s.txs n { t.x with looked:=t.x.looked++[spanOf x] } } (scanR (changeR (rowsN s.H t.x.at_.toNat) t.x.own) (spanOf x) 256) by simp [doB,h1,hf,hw],hset] at hK
     dsimp only at hK
     refine WP.seq<|WP.reg<|WL.e (e_loadN a51) ?_
     refine WL.h (h_call (Of_spec _) k55 ?_)
     refine WL.h (h_alloc z110 fun b5=>?_)
     refine WL.h' (h_store s110 ?_)
     refine WL.next<|WP.seq<|WP.draws mixedOk 11<|RW.e 0 rfl e_move<|RW.e 1 rfl e_move<|RW.e 2 rfl e_nil<|RW.e 3 rfl (e_fa f112_1)<|RW.e 4 rfl (e_load a104)<|RW.e 5 rfl (e_loadN a110) ?_
     refine RW.any (is:=[6]) rfl ⟨?_,trivial⟩
     refine RWat.h rfl rfl rfl ?_
     refine (h_bs sl104 z110 (.a2 (.tmp 38) rfl<|.n) fun b6=>?_)
     refine ⟨⟨⟨_,rfl,.inl ⟨rfl,(e_load a104)⟩⟩,⟨_,rfl,.inl ⟨rfl,(e_fa f112_1)⟩⟩,⟨_,rfl,.inl ⟨rfl,e_nil⟩⟩,⟨_,rfl,.inl ⟨rfl,e_move⟩⟩,⟨_,rfl,.inl ⟨rfl,e_move⟩⟩,trivial⟩,?_⟩
     refine RW.any (is:=[7]) rfl ⟨?_,trivial⟩
     refine RWat.h rfl rfl rfl ?_
     refine (hl_append (xs:=t.x.looked) (ys:=[spanOf x]) sl104 spanE z110 (lit_rl spanE [spanOf x] rfl) (by simp;omega) (fun a5 n5 c5=>?_))
     refine ⟨⟨⟨_,rfl,.inl ⟨rfl,e_move⟩⟩,trivial⟩,?_⟩
     refine RW.e 8 rfl e_nil<|RW.e 9 rfl (e_fa f112_1) ?_
     refine RW.any (is:=[10]) rfl ⟨?_,trivial⟩
     refine RWat.h' rfl rfl rfl ?_
     refine (h_store s104 ?_)
     refine ⟨trivial,?_⟩
     refine RW.done<|PO.next<|WP.seq<|WP.reg<|WL.e e_move<|WL.e e_move<|WL.e (e_loadN a110)<|WL.cls (A:=Bs p dp (s)) (B:=[cl p 89 [.pointer (some ⟨lp,0,none⟩),.pointer (some ⟨pp,0,none⟩),.map (some mb)],cl lp 147 [.pointer (some ⟨dp,0,none⟩),.int .i64 s.at_],Dk dp s.d,Pa pp s.H s.trim,Mp eU32 (.map (some mb)) (List.map kvU s.txs)]) (fun S h=>⟨(lp,pp,mb),h⟩) ?_
     refine WL.h (h_call (look_spec (t:=t) (spanOf x) hs (findU_mem hf) (sl_rl (E:=127) (u:=s2.v) (xs:=t.x.own))) k56 ?_)
     intro a8 m8 c8
     refine WL.opn (Bs_op (p:=p) (dp:=dp) (s:=s)) fun x=>?_
     obtain ⟨lp,pp,mb⟩:=x
     dsimp only
     refine WL.e (e_build z61 p61 (.o (.tmp 46) rfl<|.n)) ?_
     refine WL.h' (h_store s61 ?_)
     refine WL.e e_assign<|WL.next<|WP.ret<|PO.blockR<|PO.past nofun ?_
     rw [show List.map kvU s.txs=List.map kvU (A++{ t with x:={ t.x with looked:=t.x.looked++[spanOf x] } }::B) by rw [hts];simp [kvU]]
     refine PO.cls (A:=TxB_ { t with x:={ t.x with looked:=t.x.looked++[spanOf x] } }) (B:=[cl t.q 112 [.int .u32 t.x.at_.toNat,.slice a5 n5 c5,s2.v],Sl 110 2 SpanM.c (.slice a5 n5 c5) (t.x.looked++[spanOf x]),Sl 127 3 ChgM.c s2.v t.x.own]) (fun S h=>⟨(⟨a5,n5,c5⟩,s2),h⟩) ?_
     refine PO.cls (A:=TxsU TPB (A++{ t with x:={ t.x with looked:=t.x.looked++[spanOf x] } }::B)) (B:=[TxB_ { t with x:={ t.x with looked:=t.x.looked++[spanOf x] } },TxsU TPB (A++B)]) (fun S h=>TxsU_in (TP:=TPB) (t:={ t with x:={ t.x with looked:=t.x.looked++[spanOf x] } }) S h) ?_
     refine PO.cls (A:=Bs p dp ({ s with txs:=A++{ t with x:={ t.x with looked:=t.x.looked++[spanOf x] } }::B })) (B:=[cl p 89 [.pointer (some ⟨lp,0,none⟩),.pointer (some ⟨pp,0,none⟩),.map (some mb)],cl lp 147 [.pointer (some ⟨dp,0,none⟩),.int .i64 s.at_],Dk dp s.d,Pa pp s.H s.trim,Mp eU32 (.map (some mb)) (List.map kvU (A++{ t with x:={ t.x with looked:=t.x.looked++[spanOf x] } }::B))]) (fun S h=>⟨(lp,pp,mb),h⟩) ?_
     exact PO.fin Tryz.results17 (rv_cellN a61 (rv_tmp rv_nil)) (hK a8 m8 c8)
theorem IndexS_spec {g:World} {A B:HP} {u y:Value} {xs:List (SpanM)} {p:SpanM→Bool} (hA:RL A 2 SpanM.c u xs) (hn:xs.length≤68719476736) (hy:∀ x,CallV Tryz.prog g y [.agg (SpanM.c x).toArray] [B] fun K R=>K (.bool (p x)) (B::R)) :
  Spec Tryz.prog g 117 [u,y] [A,B] fun K R=>K (.int .i64 (if xs.any p then (xs.findIdx p:Nat) else -1)) (A::B::R):=by
 refine Spec.intro Tryz.func117 rfl Tryz.ntmps117 rfl fun R K hK=>?_
 refine WP.seq<|WP.reg<|WL.e e_assign<|WL.next<|WP.seq<|WP.seq<|WP.reg<|WL.e e_move<|WL.e (el_len sl104 hA)<|WL.e e_move<|WL.next<|WP.block<|WP.loopK (fun (i:Nat)=>[(8,.int .i64 i)]) (fun (i:Nat)=>A::B::R) [(0,_),(1,_),(7,_)] (fun (i:Nat)=>i≤xs.length∧(xs.take i).any p=false) (fun (i:Nat)=>xs.length - i) 0 (⟨Nat.zero_le _,by simp⟩) ?_
 rintro i ⟨h1,h2⟩
 refine WP.seq<|WP.reg<|WL.e e_lss<|WL.next<|WP.seq ?_
 refine WP.cond rfl (fun h3=>?_) (fun h3=>?_)
 ·have hlt:i < xs.length:=by rw [decide_eq_true_eq] at h3;omega
  obtain ⟨x,hx⟩:∃ x,xs[i]?=some x:=⟨_,List.getElem?_eq_getElem hlt⟩
  refine WP.skip<|PO.next<|WP.seq<|WP.block<|WP.seq<|WP.reg<|WL.e e_move<|WL.e e_assign<|WL.next<|WP.seq<|WP.reg<|WL.e e_move<|WL.e e_move<|WL.e e_move<|WL.e (el_ia sl104 hA hlt)<|WL.e (el_loadN (vs:=SpanM.c x) a110 spanE hA hx (hv:=ext_of (spanE.len x))) ?_
  refine WL.h (h_cally (hy x) ?_)
  refine WL.next ?_
  refine WP.cond rfl (fun h4=>?_) (fun h4=>?_)
  ·skip
   refine WP.seq<|WP.reg<|WL.e e_move<|WL.e e_assign<|WL.next<|WP.ret<|PO.blockR<|PO.past nofun<|PO.round nofun<|PO.blockR<|PO.past nofun ?_
   exact PO.finE Tryz.results117 (rv_tmp rv_nil) (by rw [index_at h2 hx h4];rfl) hK
  ·skip
   refine WP.skip<|PO.blockN<|PO.next<|WP.reg<|WL.e (e_add rfl rfl (w_i64 (by omega) (by omega)))<|WL.e e_move<|WL.nil ?_
   exact PO.againK (i+1) ⟨by omega,by rw [take_snoc hx,List.any_append,h2];simp [h4]⟩ (by omega)
 ·have hall:xs.any p=false:=by rw [decide_eq_false_iff_not] at h3;rwa [List.take_of_length_le (by omega)] at h2
  refine WP.exit<|PO.past nofun<|PO.round nofun<|PO.blockX<|PO.next<|WP.seq<|WP.reg<|WL.e e_assign<|WL.next<|WP.ret ?_
  exact PO.finE Tryz.results117 (rv_tmp rv_nil) (by rw [hall];rfl) hK
theorem ContainsS_spec {g:World} {A B:HP} {u y:Value} {xs:List SpanM} {p:SpanM→Bool} (hA:RL A 2 SpanM.c u xs) (hn:xs.length≤68719476736) (hy:∀ x,CallV Tryz.prog g y [.agg (SpanM.c x).toArray] [B] fun K R=>K (.bool (p x)) (B::R)) :
  Spec Tryz.prog g 42 [u,y] [A,B] fun K R=>K (.bool (xs.any p)) (A::B::R):=by
 refine Spec.intro Tryz.func42 rfl Tryz.ntmps42 rfl fun R K hK=>?_
 refine WP.seq<|WP.reg<|WL.e e_assign<|WL.next<|WP.seq<|WP.reg<|WL.e e_move<|WL.e e_move ?_
 refine WL.h (h_call (IndexS_spec hA hn hy) k117 ?_)
 refine WL.e e_geq<|WL.e e_assign<|WL.next<|WP.ret ?_
 exact PO.finE Tryz.results42 (rv_tmp rv_nil) (by cases h:xs.any p <;> simp) hK
theorem BCom1_spec {g:World} {c2 c6 p dp b:Nat} {s:StV} {t:TxT} {v1 v2:Value} (sp:SpanM) (hs:BetOk s b) (ht:t ∈ s.txs):Spec Tryz.prog g 43 [.agg (SpanM.c sp).toArray,.pointer (some ⟨c2,0,none⟩),.pointer (some ⟨c6,0,none⟩)] [cl c2 29 [.pointer (some ⟨p,0,none⟩)],cl c6 100 [.pointer (some ⟨t.q,0,none⟩)],cl t.q 112 [.int .u32 t.x.at_.toNat,v1,v2],Bs p dp s] fun K R=>K (.bool (sinceH s.H t.x.at_.toNat sp)) (cl c2 29 [.pointer (some ⟨p,0,none⟩)]::cl c6 100 [.pointer (some ⟨t.q,0,none⟩)]::cl t.q 112 [.int .u32 t.x.at_.toNat,v1,v2]::Bs p dp s::R):=by
 refine Spec.intro Tryz.func43 rfl Tryz.ntmps43 rfl fun R K hK=>?_
 refine WP.opn (Bs_op (p:=p) (dp:=dp) (s:=s)) fun x=>?_
 obtain ⟨lp,pp,mb⟩:=x
 dsimp only
 refine WP.seq<|WP.reg ?_
 refine WL.h (h_box fun b1=>?_)
 refine WL.e e_assign<|WL.next<|WP.seq<|WP.draws mixedOk 11<|RW.e 0 rfl (e_load a29)<|RW.e 1 rfl e_nil<|RW.e 2 rfl (e_fa f89_1)<|RW.e 3 rfl (e_load a85)<|RW.e 4 rfl (e_load a100)<|RW.e 5 rfl e_nil<|RW.e 6 rfl (e_fa f112_0)<|RW.e 7 rfl (e_load a48)<|RW.e 8 rfl (e_loadN a110) ?_
 refine RW.any (is:=[9]) rfl ⟨?_,trivial⟩
 refine RWat.h rfl rfl rfl ?_
 refine (h_call (PSince_spec (p:=pp) (H:=s.H) (trim:=s.trim) t.x.at_ sp (hs.ats t ht).1 (by have:=hs.st.hl;have:=hs.st.bb;omega)) k44 ?_)
 refine ⟨trivial,?_⟩
 refine RW.e 10 rfl e_assign<|RW.done<|PO.next<|WP.ret<|PO.cls (A:=Bs p dp (s)) (B:=[cl p 89 [.pointer (some ⟨lp,0,none⟩),.pointer (some ⟨pp,0,none⟩),.map (some mb)],cl lp 147 [.pointer (some ⟨dp,0,none⟩),.int .i64 s.at_],Dk dp s.d,Pa pp s.H s.trim,Mp eU32 (.map (some mb)) (List.map kvU s.txs)]) (fun S h=>⟨(lp,pp,mb),h⟩) ?_
 exact PO.fin Tryz.results43 (rv_tmp rv_nil) hK
set_option maxHeartbeats 4000000 in
theorem BCommit_spec {g:World} {p dp b:Nat} {s:StV} (n:UInt32) (hs:BetOk s b) (hb1:b+1≤1000000000):Spec Tryz.prog g 11 [.pointer (some ⟨p,0,none⟩),.int .u32 n.toNat] [Bs p dp s,TxsU TPB s.txs] fun K R=>K (.tuple #[.int .u32 (comN betaI s n).toNat,.int .i64 (comE betaI s n)]) (Bs p dp (comS betaI s n)::TxsU TPB (comS betaI s n).txs::R):=by
 refine Spec.intro Tryz.func11 rfl Tryz.ntmps11 rfl fun R K hK=>?_
 refine WP.seq<|WP.reg ?_
 refine WL.h (h_box fun b1=>?_)
 refine WL.e e_assign<|WL.e e_assign<|WL.next<|WP.seq<|WP.seq<|WP.reg<|WL.e (e_load a29) ?_
 refine WL.h (h_call (Bthere_spec) k38 ?_)
 refine WL.e e_not<|WL.next<|WP.cond_f rfl<|WP.opn (Bs_op (p:=p) (dp:=dp) (s:=s)) fun x=>?_
 obtain ⟨lp,pp,mb⟩:=x
 dsimp only
 refine WP.skip<|PO.next<|WP.seq<|WP.reg<|WL.e (e_load a29)<|WL.e e_nil<|WL.e (e_fa f89_2)<|WL.e (e_load a87)<|WL.e e_move<|WL.e (e_lookU (n:=n) (ts:=s.txs) Tryz.underlying87 (key_u32 Tryz.underlying48) zz100) ?_
 refine WL.h (h_alloc z100 fun b2=>?_)
 refine WL.h' (h_store s100 ?_)
 refine WL.next<|WP.seq<|WP.seq<|WP.reg<|WL.e (e_load a100)<|WL.e (e_peq pt100)<|WL.next ?_
 refine WP.cond rfl (fun h2=>?_) (fun h2=>?_)
 ·have hf:findU s.txs n=none:=by simpa using h2
  rw [show comE betaI s n=6 by simp [comE,hf],show comN betaI s n=0 by simp [comN,comE,hf],show comS betaI s n=s by simp [comS,hf]] at hK
  refine WP.seq<|WP.reg<|WL.e e_assign<|WL.e e_assign<|WL.next<|WP.ret<|PO.past nofun<|PO.cls (A:=Bs p dp (s)) (B:=[cl p 89 [.pointer (some ⟨lp,0,none⟩),.pointer (some ⟨pp,0,none⟩),.map (some mb)],cl lp 147 [.pointer (some ⟨dp,0,none⟩),.int .i64 s.at_],Dk dp s.d,Pa pp s.H s.trim,Mp eU32 (.map (some mb)) (List.map kvU s.txs)]) (fun S h=>⟨(lp,pp,mb),h⟩) ?_
  exact PO.fin Tryz.results11 (rv_tmp (rv_tmp rv_nil)) hK
 ·obtain ⟨t,hf⟩:∃ t,findU s.txs n=some t:=by cases e:findU s.txs n with
   | none=>rw [e] at h2;cases h2
   | some t=>exact ⟨t,rfl⟩
  rw [hf,Option.map_some]
  obtain ⟨hid,A,B,hts,hdel,_⟩:=findU_mid hf
  refine WP.cls (A:=Bs p dp (s)) (B:=[cl p 89 [.pointer (some ⟨lp,0,none⟩),.pointer (some ⟨pp,0,none⟩),.map (some mb)],cl lp 147 [.pointer (some ⟨dp,0,none⟩),.int .i64 s.at_],Dk dp s.d,Pa pp s.H s.trim,Mp eU32 (.map (some mb)) (List.map kvU s.txs)]) (fun S h=>⟨(lp,pp,mb),h⟩) ?_
  refine WP.opn (TxsU_out (TP:=TPB) hts) fun _=>?_
  refine WP.opn (TxB__op (t:=t)) fun x=>?_
  obtain ⟨s1,s2⟩:=x
  dsimp only
  rw [← hdel]
  have hol:=hs.st.own_le (findU_mem hf)
  have hlk:=hs.st.lks t (findU_mem hf)
  have hbb:=hs.st.bb
  have hhl:=hs.st.hl
  have hcl:=chgs_len t.x.own
  have hok:=hs.st.own t (findU_mem hf)
  have hcl2:=hcl.2 hok
  have hall:t.x.own.all chgOk=true:=List.all_eq_true.2 hok
  have hrl:=chgsB_len t.x.own
  have hdk:=hs.st.log
  refine WP.skip<|PO.next<|WP.seq<|WP.reg<|WL.e (e_load a100)<|WL.e e_nil<|WL.e (e_fa f112_1)<|WL.e (e_load a104)<|WL.e e_makeFunc<|WL.cls (A:=bun [cl b1 29 [.pointer (some ⟨p,0,none⟩)],cl b2 100 [.pointer (some ⟨t.q,0,none⟩)],cl t.q 112 [.int .u32 t.x.at_.toNat,s1.v,s2.v],Bs p dp s]) (B:=[cl b1 29 [.pointer (some ⟨p,0,none⟩)],cl b2 100 [.pointer (some ⟨t.q,0,none⟩)],cl t.q 112 [.int .u32 t.x.at_.toNat,s1.v,s2.v],Bs p dp s]) (fun S h=>h) ?_
  refine WL.h (h_call (ContainsS_spec (B:=bun [cl b1 29 [.pointer (some ⟨p,0,none⟩)],cl b2 100 [.pointer (some ⟨t.q,0,none⟩)],cl t.q 112 [.int .u32 t.x.at_.toNat,s1.v,s2.v],Bs p dp s]) (xs:=t.x.looked) sl_rl (by omega) (fun sp=>CallV.bun (CallV.of_spec (fs:=[]) (cs:=[.pointer (some ⟨b1,0,none⟩),.pointer (some ⟨b2,0,none⟩)]) (BCom1_spec (c2:=b1) (c6:=b2) (p:=p) (dp:=dp) (t:=t) (v1:=s1.v) (v2:=s2.v) sp hs (findU_mem hf)) k43))) k42 ?_)
  show WL _ _ _ _ _ _ _ _
  refine WL.open_ (k:=?_)
  refine WL.e e_assign<|WL.next<|WP.seq<|WP.reg<|WL.e (e_load a29)<|WL.e e_move ?_
  refine WL.h (h_call (Bends_spec n hs (by have:=hs.st.tl;omega)) k45 ?_)
  refine WL.next<|WP.seq<|WP.seq<|WP.reg<|WL.e e_move<|WL.next ?_
  refine WP.cond rfl (fun h3=>?_) (fun h3=>?_)
  ·have hck:betaI.chk s t.x=true:=h3
   rw [show comE betaI s n=9 by simp [comE,hf,hck],show comN betaI s n=0 by simp [comN,comE,hf,hck],show comS betaI s n=endsB s n by simp only [comS,hf,hck,if_true];rfl] at hK
   refine WP.seq<|WP.reg<|WL.e e_assign<|WL.e e_assign<|WL.next<|WP.ret<|PO.past nofun ?_
   exact PO.fin Tryz.results11 (rv_tmp (rv_tmp rv_nil)) hK
  ·have hck:betaI.chk s t.x=false:=h3
   refine WP.skip<|PO.next<|WP.seq<|WP.reg<|WL.e (e_load a100)<|WL.e e_nil<|WL.e (e_fa f112_2)<|WL.e (e_load a91) ?_
   refine WL.h (h_call (PutChanges_spec (u:=s2.v) (sl_rl (xs:=t.x.own)) (by omega) (by omega)) k46 ?_)
   refine ⟨fun hb=>absurd hb (by rw [hall];simp),fun _ hle=>?_,fun _ hle a3 n3 c3=>?_⟩
   ·have hnf:¬ fitsS s t.x:=not_fitsS hle
    rw [show comE betaI s n=5 by simp [comE,hf,hck,hnf],show comN betaI s n=0 by simp [comN,comE,hf,hck,hnf],show comS betaI s n=endsB s n by simp only [comS,hf,hck,hnf,if_false,Bool.false_eq_true];rfl] at hK
    refine WL.e e_move<|WL.e e_extract<|WL.e e_extract<|WL.e e_assign<|WL.e e_assign<|WL.next<|WP.seq<|WP.seq<|WP.reg<|WL.e e_move<|WL.e e_neq<|WL.e e_move ?_
    refine WL.bool 41 rfl (fun hg=>?_) (fun hg=>?_)
    ·skip
     refine WL.skip<|WL.skip<|WL.skip<|WL.skip<|WL.skip<|WL.skip<|WL.skip<|WL.e e_pick_t<|WL.next<|WP.cond_t rfl<|WP.seq<|WP.reg<|WL.e e_assign<|WL.e e_assign<|WL.next<|WP.ret<|PO.past nofun ?_
     exact PO.fin Tryz.results11 (rv_tmp (rv_tmp rv_nil)) hK
    ·exact absurd hg (by decide) 
   ·refine WL.opn (Bs_op (p:=p) (dp:=dp) (s:=(endsB s n))) fun x=>?_
    obtain ⟨lp,pp,mb⟩:=x
    dsimp only
    refine WL.e e_move<|WL.e e_extract<|WL.e e_extract<|WL.e e_assign<|WL.e e_assign<|WL.next<|WP.seq<|WP.seq<|WP.reg<|WL.e e_move<|WL.e e_neq<|WL.e e_move ?_
    refine WL.bool 41 rfl (fun hg=>?_) (fun hg=>?_)
    ·exact absurd hg (by decide) 
    ·skip
     refine WL.e (e_load a29)<|WL.e e_nil<|WL.e (e_fa f89_0)<|WL.e (e_load a81)<|WL.e e_move ?_
     refine WL.h (h_call (Add_spec (i:=s.at_) (d:=s.d) (sl_rl (xs:=chgsB t.x.own)) hdk.ok (by have:=hdk.le;have:=hdk.len;omega) (by rw [hdk.waits];simp)) k47 ?_)
     refine ⟨fun h=>?_,fun h h'=>?_,fun h h'=>?_⟩
     ·have hnf:¬ fitsS s t.x:=fun hf=>absurd hf.1 (by omega)
      rw [show comE betaI s n=5 by simp [comE,hf,hck,hnf],show comN betaI s n=0 by simp [comN,comE,hf,hck,hnf],show comS betaI s n=endsB s n by simp only [comS,hf,hck,hnf,if_false,Bool.false_eq_true];rfl] at hK
      refine WL.e e_neq<|WL.e e_pick_f<|WL.next<|WP.cond_t rfl<|WP.seq<|WP.reg<|WL.e e_assign<|WL.e e_assign<|WL.next<|WP.ret<|PO.past nofun<|PO.cls (A:=Bs p dp ((endsB s n))) (B:=[cl p 89 [.pointer (some ⟨lp,0,none⟩),.pointer (some ⟨pp,0,none⟩),.map (some mb)],cl lp 147 [.pointer (some ⟨dp,0,none⟩),.int .i64 s.at_],Dk dp s.d,Pa pp s.H (endsB s n).trim,Mp eU32 (.map (some mb)) (List.map kvU (delU s.txs n))]) (fun S h=>⟨(lp,pp,mb),h⟩) ?_
      exact PO.fin Tryz.results11 (rv_tmp (rv_tmp rv_nil)) hK
     ·have hnf:¬ fitsS s t.x:=fun hf=>absurd hf.2 (by omega)
      rw [show comE betaI s n=5 by simp [comE,hf,hck,hnf],show comN betaI s n=0 by simp [comN,comE,hf,hck,hnf],show comS betaI s n=endsB s n by simp only [comS,hf,hck,hnf,if_false,Bool.false_eq_true];rfl] at hK
      refine WL.e e_neq<|WL.e e_pick_f<|WL.next<|WP.cond_t rfl<|WP.seq<|WP.reg<|WL.e e_assign<|WL.e e_assign<|WL.next<|WP.ret<|PO.past nofun<|PO.cls (A:=Bs p dp ((endsB s n))) (B:=[cl p 89 [.pointer (some ⟨lp,0,none⟩),.pointer (some ⟨pp,0,none⟩),.map (some mb)],cl lp 147 [.pointer (some ⟨dp,0,none⟩),.int .i64 s.at_],Dk dp s.d,Pa pp s.H (endsB s n).trim,Mp eU32 (.map (some mb)) (List.map kvU (delU s.txs n))]) (fun S h=>⟨(lp,pp,mb),h⟩) ?_
      exact PO.fin Tryz.results11 (rv_tmp (rv_tmp rv_nil)) hK
     ·have hfit:fitsS s t.x:=⟨h,h'⟩
      refine WL.e e_neq<|WL.e e_pick_f<|WL.next<|WP.cond_f rfl<|WP.skip<|PO.next<|WP.seq<|WP.reg<|WL.e (e_load a29)<|WL.e e_nil<|WL.e (e_fa f89_0)<|WL.e (e_load a81) ?_
      refine WL.h (h_call (Force_spec (d:=(addW s.d s.at_ (frame (chgsB t.x.own)) (secs (chgsB t.x.own).length))) (addW_ok _ _ _ _ hdk.ok)) k48 ?_)
      refine WL.next<|WP.seq<|WP.draws mixedOk 13<|RW.e 0 rfl (e_load a29)<|RW.e 1 rfl e_nil<|RW.e 2 rfl (e_fa f89_1)<|RW.e 3 rfl (e_load a85)<|RW.e 4 rfl (e_load a100)<|RW.e 5 rfl e_nil<|RW.e 6 rfl (e_fa f112_2)<|RW.e 7 rfl (e_load a91) ?_
      refine RW.any (is:=[8]) rfl ⟨?_,trivial⟩
      refine RWat.h rfl rfl rfl ?_
      refine (h_call (PCommit_spec (p:=pp) (H:=s.H) (trim:=(endsB s n).trim) (u:=s2.v) (cs:=t.x.own) (sl_rl (E:=127)) hok (by omega) (by omega)) k36 ?_)
      refine ⟨trivial,?_⟩
      refine RW.e 9 rfl e_extract<|RW.e 10 rfl e_extract<|RW.e 11 rfl e_assign<|RW.e 12 rfl e_assign<|RW.done<|PO.next<|WP.ret ?_
      rw [show comE betaI s n=0 by simp [comE,hf,hck,hfit],show comN betaI s n=UInt32.ofNat s.H.length+1 by simp [comN,comE,hf,hck,hfit],show comS betaI s n=addS (endsB s n) t.x.own by simp only [comS,hf,hck,hfit,if_true,if_false,Bool.false_eq_true];rfl] at hK
      refine PO.cls (A:=Bs p dp (addS (endsB s n) t.x.own)) (B:=[cl p 89 [.pointer (some ⟨lp,0,none⟩),.pointer (some ⟨pp,0,none⟩),.map (some mb)],cl lp 147 [.pointer (some ⟨dp,0,none⟩),.int .i64 (s.at_+secs (chgsB t.x.own).length:Nat)],Dk dp (addW s.d s.at_ (frame (chgsB t.x.own)) (secs (chgsB t.x.own).length)).sync,Pa pp (s.H++[t.x.own]) (endsB s n).trim,Mp eU32 (.map (some mb)) (List.map kvU (delU s.txs n))]) (fun S h=>⟨(lp,pp,mb),h⟩) ?_
      exact PO.fin Tryz.results11 (rv_tmp (rv_tmp rv_nil)) hK
theorem BRows_spec {g:World} {p dp b:Nat} {s:StV} (hs:BetOk s b):Spec Tryz.prog g 21 [.pointer (some ⟨p,0,none⟩)] [Bs p dp s] fun K R=>∀ a m c,K (.slice a m c) (Sl 142 2 RowM.c (.slice a m c) s.rows::Bs p dp s::R):=by
 refine Spec.intro Tryz.func21 rfl Tryz.ntmps21 rfl fun R K hK=>?_
 refine WP.seq<|WP.reg<|WL.e e_assign<|WL.next<|WP.seq<|WP.seq<|WP.reg<|WL.e e_move ?_
 refine WL.h (h_call (Bthere_spec) k38 ?_)
 refine WL.e e_not<|WL.next<|WP.cond_f rfl<|WP.opn (Bs_op (p:=p) (dp:=dp) (s:=s)) fun x=>?_
 obtain ⟨lp,pp,mb⟩:=x
 dsimp only
 have hbb:=hs.st.bb
 have hhl:=hs.st.hl
 have hsum:=hs.st.sum
 refine WP.skip<|PO.next<|WP.seq<|WP.draws mixedOk 12<|RW.e 0 rfl e_move<|RW.e 1 rfl e_nil<|RW.e 2 rfl (e_fa f89_1)<|RW.e 3 rfl (e_load a85)<|RW.e 4 rfl e_move<|RW.e 5 rfl e_nil<|RW.e 6 rfl (e_fa f89_1)<|RW.e 7 rfl (e_load a85)<|RW.e 9 rfl (e_build z110 p110 (.o (.const (.string ⟨#[48]⟩)) rfl<|.o (.const (.string ⟨#[122,122,122,122,122,122,122,122,122,122,122,122,122,122,122,122]⟩)) rfl<|.n)) ?_
 refine RW.any (is:=[8]) rfl ⟨?_,trivial⟩
 refine RWat.h rfl rfl rfl ?_
 refine (h_call (PNow_spec) k64 ?_)
 refine ⟨⟨⟨_,rfl,.inl ⟨rfl,(e_build z110 p110 (.o (.const (.string ⟨#[48]⟩)) rfl<|.o (.const (.string ⟨#[122,122,122,122,122,122,122,122,122,122,122,122,122,122,122,122]⟩)) rfl<|.n))⟩⟩,⟨_,rfl,.inl ⟨rfl,(e_load a85)⟩⟩,⟨_,rfl,.inl ⟨rfl,(e_fa f89_1)⟩⟩,⟨_,rfl,.inl ⟨rfl,e_nil⟩⟩,⟨_,rfl,.inl ⟨rfl,e_move⟩⟩,trivial⟩,?_⟩
 refine RW.any (is:=[10]) rfl ⟨?_,trivial⟩
 refine RWat.h rfl rfl rfl ?_
 refine (h_call (PScan_spec (p:=pp) (H:=s.H) (trim:=s.trim) (UInt32.ofNat s.H.length) allSpan 2147483647 (by rw [UInt32.le_iff_toNat_le,len32 hs.st];exact hs.trim) (by rw [len32 hs.st];exact Nat.le_refl _) (by omega) (by omega) (by decide)) k63 ?_)
 rw [len32 hs.st,scan_all (rowsN_rising _ _) (keys_rowsN (fun cs hcs=>(hs.st.recs cs hcs).2) _) (by have:=rowsN_len s.H s.H.length;omega)]
 intro a9 m9 c9
 refine ⟨trivial,?_⟩
 refine RW.e 11 rfl e_assign<|RW.done<|PO.next<|WP.ret<|PO.cls (A:=Bs p dp (s)) (B:=[cl p 89 [.pointer (some ⟨lp,0,none⟩),.pointer (some ⟨pp,0,none⟩),.map (some mb)],cl lp 147 [.pointer (some ⟨dp,0,none⟩),.int .i64 s.at_],Dk dp s.d,Pa pp s.H s.trim,Mp eU32 (.map (some mb)) (List.map kvU s.txs)]) (fun S h=>⟨(lp,pp,mb),h⟩) ?_
 exact PO.fin Tryz.results21 (rv_tmp rv_nil) (hK a9 m9 c9)
set_option maxHeartbeats 4000000 in
theorem BNew_spec {g:World} {dp:Nat} {d:DiskM} {at0:Nat} (H:List (List ChgM)) (hd:DiskLogB d at0 (H.map chgsB)) (hok:∀ cs ∈ H,cs.length≤4096∧∀ c ∈ cs,chgOk c=true) :
  Spec Tryz.prog g 7 [.pointer (some ⟨dp,0,none⟩)] [Dk dp d] fun K R=>∀ p,K (.tuple #[.pointer (some ⟨p,0,none⟩),.int .i64 0]) (Bs p dp (st0 d at0 H)::TxsU TPB []::R):=by
 refine Spec.intro Tryz.func7 rfl Tryz.ntmps7 rfl fun R K hK=>?_
 refine WP.seq<|WP.reg<|WL.e e_assign<|WL.e e_assign<|WL.next<|WP.seq<|WP.reg<|WL.e e_move ?_
 refine WL.h (h_call (Open_spec hd.ok (by rw [hd.waits];simp)) k33 ?_)
 intro lp rv xs hx
 obtain ⟨hz,ha,hc⟩:=hd.recs
 obtain rfl:tot xs=at0:=by rw [← ha,← hx];simp [tot];rfl
 have hxl:xs.map (·.2.1)=H.map chgsB:=by rw [← hz,← hx];simp
 have hlen:xs.length=H.length:=by have:=congrArg List.length hxl;simpa using this
 have hxb:xs.length≤4096:=by have h7:=(recs_le _ d.seen.flatten (Nat.le_refl _)).2;rw [flat_seen hd.ok.l2,hd.ok.len] at h7;have h8:=hd.ok.le;have h9:=congrArg List.length hx;simp at h9;omega
 rw [hc,hd.sync]
 refine WL.e e_move<|WL.e e_extract<|WL.e e_extract<|WL.e e_extract<|WL.e e_assign<|WL.e e_assign<|WL.e e_assign<|WL.next<|WP.seq<|WP.seq<|WP.reg<|WL.e e_move<|WL.e e_neq<|WL.next<|WP.cond_f rfl<|WP.skip<|PO.next<|WP.seq<|WP.reg<|WL.e e_move ?_
 refine WL.h (h_call (PNew_spec) k34 ?_)
 intro pp
 refine WL.h (h_makeMapB (ek:=eU32) fun mb=>?_)
 refine WL.e (e_build z89 p89 (.o (.tmp 21) rfl<|.o (.tmp 22) rfl<|.o (.tmp 23) rfl<|.n)) ?_
 refine WL.h (h_box fun b1=>?_)
 refine WL.e e_assign<|WL.next<|WP.seq<|WP.seq<|WP.reg<|WL.e e_move<|WL.e (el_len (xs:=xs) sl82 sl_rl)<|WL.e e_move<|WL.next<|WP.block<|WP.loopK (fun (i:Nat)=>[(28,.int .i64 i)]) (fun (i:Nat)=>cl b1 89 [.pointer (some ⟨lp,0,none⟩),.pointer (some ⟨pp,0,none⟩),.map (some mb)]::cl lp 147 [.pointer (some ⟨dp,0,none⟩),.int .i64 (tot xs)]::Dk dp d::Pa pp (H.take i) 0::Mp eU32 (.map (some mb)) ([]:List (UInt32 × Value))::Sl 90 1 recC rv.v xs::RecsR xs::R) [(7,_),(26,_),(27,_)] (fun (i:Nat)=>i≤H.length) (fun (i:Nat)=>H.length - i) 0 (Nat.zero_le _) ?_
 intro i hi
 refine WP.seq<|WP.reg<|WL.e e_lss<|WL.next<|WP.seq ?_
 refine WP.cond rfl (fun h1=>?_) (fun h1=>?_)
 ·have hlt:i < xs.length:=by rw [decide_eq_true_eq] at h1;omega
  obtain ⟨x,hxi⟩:∃ x,xs[i]?=some x:=⟨_,List.getElem?_eq_getElem hlt⟩
  obtain ⟨y,hy⟩:∃ y,H[i]?=some y:=⟨_,List.getElem?_eq_getElem (by omega)⟩
  have hxy:x.2.1=chgsB y:=by have:=congrArg (·[i]?) hxl;simpa [hxi,hy] using this
  have hrl:=recs_rl (List.mem_of_getElem? hxi)
  obtain ⟨hy1,hy2⟩:=hok y (List.mem_of_getElem? hy)
  refine WP.skip<|PO.next<|WP.seq<|WP.block<|WP.seq<|WP.reg<|WL.e (el_ia (j:=i) (xs:=xs) sl82 sl_rl hlt)<|WL.e (el_load0 (j:=i) (xs:=xs) (a:=x) a90 recCE sl_rl hxi)<|WL.e e_assign<|WL.next<|WP.seq<|WP.reg<|WL.e e_move ?_
  refine WL.h (h_call (GetChanges_spec (v:=x.1) (l:=y) hy1 hy2 (hxy ▸ hrl)) k35 ?_)
  intro a5 n5 c5
  refine WL.e e_move<|WL.e e_extract<|WL.e e_extract<|WL.e e_assign<|WL.e e_assign<|WL.next<|WP.seq<|WP.seq<|WP.reg<|WL.e e_move<|WL.e e_eql<|WL.next<|WP.cond_t rfl<|WP.reg<|WL.e e_move<|WL.e e_nil<|WL.e (e_fa f89_1)<|WL.e (e_load a85)<|WL.e e_move ?_
  refine WL.h (h_call (PCommit_spec (p:=pp) (H:=H.take i) (trim:=0) (cs:=y) (sl_rl (E:=127)) hy2 (by omega) (by rw [List.length_take];omega)) k36 ?_)
  refine WL.e e_move<|WL.e e_extract<|WL.e e_extract<|WL.e e_assign<|WL.next<|WP.seq<|WP.reg<|WL.e e_move<|WL.e e_neq<|WL.next<|WP.cond_f rfl<|WP.skip<|PO.blockN<|PO.next<|WP.reg<|WL.e (e_add rfl rfl (w_i64 (by omega) (by omega)))<|WL.e e_move<|WL.nil ?_
  rw [← take_snoc hy]
  exact PO.againK (i+1) (by omega) (by omega)
 ·rw [List.take_of_length_le (show H.length≤i by rw [decide_eq_false_iff_not] at h1;omega)]
  refine WP.exit<|PO.past nofun<|PO.round nofun<|PO.blockX<|PO.next<|WP.seq<|WP.reg<|WL.e e_move<|WL.e e_assign<|WL.e e_assign<|WL.next<|WP.ret<|PO.conv (fun S h=>TxsU_nil (TP:=TPB) h) ?_
  refine PO.cls (A:=Bs b1 dp (st0 d (tot xs) H)) (B:=[cl b1 89 [.pointer (some ⟨lp,0,none⟩),.pointer (some ⟨pp,0,none⟩),.map (some mb)],cl lp 147 [.pointer (some ⟨dp,0,none⟩),.int .i64 (tot xs)],Dk dp d,Pa pp (H) 0,Mp eU32 (.map (some mb)) ([]:List (UInt32 × Value))]) (fun S h=>⟨(lp,pp,mb),h⟩) ?_
  exact PO.fin Tryz.results7 (rv_tmp (rv_tmp rv_nil)) (hK b1)
end Go.SL
namespace Go.SL
open Go
structure AtS {I:Kind} (G:Good I) (s:StV) (ts:List TxT) (H:List (List ChgM)) (b:Nat):Prop where
  ok:G.Ok s b
  txs:s.txs=ts
  his:s.H=H
  at_:s.at_≤82 * H.length
section
variable {I : Kind} {G : Good I} {s : StV} {ts : List TxT} {H : List (List ChgM)} {b : Nat}
theorem AtS.first (h:G.Ok stF 0):AtS G stF [] [] 0:=⟨h,rfl,rfl,Nat.zero_le _⟩
theorem AtS.beg (h:AtS G s ts H b) (n:UInt32) (q:Nat) (h0:n≠0) (hf:findU ts n=none) (hl:ts.length < 32) :
    begE s n=0∧AtS G (begS s n q) (ts++[⟨n,q,⟨UInt32.ofNat H.length,[],[],[]⟩⟩]) H b:=by
  have hE:begE s n=0:=by
    unfold begE
    rw [if_neg h0,h.txs,hf]
    simp;omega
  refine ⟨hE,G.beg h.ok n q,?_,?_,?_⟩ <;> rw [begS,if_pos hE]
  · show s.txs++[begT s n q]=_
    rw [h.txs,begT,h.his]
  · exact h.his
  · exact h.at_
theorem AtS.com (h:AtS G s ts H b) {n:UInt32} {t:TxT} (hf:findU ts n=some t) (hc:I.chk s t.x=false) (hl:t.x.own.length≤80) (hH:H.length≤40) (hb:b≤1000) :
    comE I s n=0∧comN I s n=UInt32.ofNat H.length+1∧AtS G (comS I s n) (delU ts n) (H++[t.x.own]) (b+1):=by
  have hok:=G.ok h.ok
  have hf':findU s.txs n=some t:=by rw [h.txs];exact hf
  have hcl:=(chgs_len t.x.own).2 (hok.own t (findU_mem hf'))
  have hlen:=chgsB_len t.x.own
  have hat:=h.at_
  have hfit:fitsS s t.x:=⟨by omega,by rw [hok.log.len];unfold secs;omega⟩
  have hE:comE I s n=0:=by simp [comE,hf',hc,hfit]
  have hS2:comS I s n=addS (I.ends s n) t.x.own:=by simp [comS,hf',hc,hfit]
  obtain ⟨e1,e2,e3,e4⟩:=G.endsE h.ok n
  refine ⟨hE,by rw [comN,if_pos hE,h.his],G.com h.ok (by omega) n,?_,?_,?_⟩
  · rw [hS2];show (I.ends s n).txs=_;rw [e4,h.txs]
  · rw [hS2];show (I.ends s n).H++_=_;rw [e3,h.his]
  · rw [hS2];show (I.ends s n).at_+_≤_;rw [e2,List.length_append,List.length_singleton];unfold secs;omega
theorem AtS.comX (h:AtS G s ts H b) {n:UInt32} {t:TxT} (hf:findU ts n=some t) (hc:I.chk s t.x=true) (hb:b≤1000) :
    comE I s n=9∧comN I s n=0∧AtS G (comS I s n) (delU ts n) H (b+1):=by
  have hf':findU s.txs n=some t:=by rw [h.txs];exact hf
  have hE:comE I s n=9:=by simp [comE,hf',hc]
  have hS2:comS I s n=I.ends s n:=by simp [comS,hf',hc]
  obtain ⟨e1,e2,e3,e4⟩:=G.endsE h.ok n
  refine ⟨hE,by rw [comN,hE];rfl,G.com h.ok (by omega) n,?_,?_,?_⟩
  · rw [hS2,e4,h.txs]
  · rw [hS2,e3,h.his]
  · rw [hS2,e2];exact h.at_
theorem AtS.rows (h:AtS G s ts H b):s.rows=rowsN H H.length:=by unfold StV.rows;rw [h.his]
theorem AtS.abo (h:AtS G s ts H b) {n:UInt32} {t:TxT} (hf:findU ts n=some t):aboE s n=0∧AtS G (aboS I s n) (delU ts n) H b:=by
  have hf':findU s.txs n=some t:=by rw [h.txs];exact hf
  obtain ⟨e1,e2,e3,e4⟩:=G.endsE h.ok n
  have hS:aboS I s n=I.ends s n:=by simp [aboS,hf']
  refine ⟨by simp [aboE,hf'],?_⟩
  rw [hS]
  exact ⟨G.ends h.ok n,by rw [e4,h.txs],by rw [e3,h.his],by rw [e2];exact h.at_⟩
theorem AtS.abo0 (h:AtS G s ts H b) {n:UInt32} (hf:findU ts n=none):aboE s n=6∧aboS I s n=s:=by
  have hf':findU s.txs n=none:=by rw [h.txs];exact hf
  exact ⟨by simp [aboE,hf'],by simp [aboS,hf']⟩
end
theorem beg_zero (s:StV) (q:Nat):begE s 0=1∧begS s 0 q=s:=by
  have h:begE s 0=1:=by simp [begE]
  exact ⟨h,by rw [begS,h];rfl⟩
theorem since_one (k:ByteArray) (v:UInt32):sinceH [[⟨k,v,false⟩]] 0 (one k)=true:=by
  have:inSpan (one k) k=true:=by rw [← meet_one];exact in_one k
  simp [sinceH,this]
section
variable {s : StV} {ts : List TxT} {H : List (List ChgM)} {b : Nat}
theorem bet_first:BetOk stF 0:=⟨st0_first,by decide,by intro t h;cases h⟩
theorem bet_again {s:StV} {b:Nat} (h:BetOk s b):BetOk (st0 s.d s.at_ s.H) b:=⟨st0_ok h.st,Nat.zero_le _,by intro t h;cases h⟩
theorem AtS.put (h:AtS betaG s ts H b) {n:UInt32} {t:TxT} (hf:findU ts n=some t) {k:ByteArray} (hk:keyOk k=true) (v:UInt32) (hb:b≤1000) :
    ∃ s',doB s n (opPut k v)=.put s'∧AtS betaG s' (setU ts n { t.x with own:=t.x.own++[⟨k,v,false⟩] }) H (b+1):=by
  have hf':findU s.txs n=some t:=by rw [h.txs];exact hf
  have e:doB s n (opPut k v)=.put { s with txs:=setU s.txs n { t.x with own:=t.x.own++[chgOf (opPut k v)] } }:=by simp [doB,put_ok,hk,hf',w_put]
  refine ⟨_,e,?_,?_,h.his,h.at_⟩
  · obtain ⟨_,_,_,_,_,_,_,_,_,hok,_⟩:=betaG.put h.ok (by omega) e
    exact hok
  · show setU s.txs n _=_
    rw [h.txs];rfl
theorem AtS.get (h:AtS betaG s ts H b) {n:UInt32} {t:TxT} (hf:findU ts n=some t) {k:ByteArray} (hk:keyOk k=true) (hb:b≤1000) :
    ∃ s',doB s n (opGet k)=.look s' (scanR (changeR (rowsN H t.x.at_.toNat) t.x.own) (one k) 256)∧AtS betaG s' (setU ts n { t.x with looked:=t.x.looked++[one k] }) H (b+1):=by
  have hf':findU s.txs n=some t:=by rw [h.txs];exact hf
  have e:doB s n (opGet k)=.look { s with txs:=setU s.txs n { t.x with looked:=t.x.looked++[one k] } } (scanR (changeR (rowsN s.H t.x.at_.toNat) t.x.own) (one k) 256):=by simp [doB,get_ok,hk,hf',w_get,span_get]
  refine ⟨{ s with txs:=setU s.txs n { t.x with looked:=t.x.looked++[one k] } },e.trans (by rw [show rowsN s.H t.x.at_.toNat=rowsN H t.x.at_.toNat by rw [h.his]]),?_,?_,h.his,h.at_⟩
  · obtain ⟨_,_,_,_,_,_,_,_,_,hok,_⟩:=betaG.look h.ok (by omega) e
    exact hok
  · show setU s.txs n _=_
    rw [h.txs]
theorem AtS.chk (h:AtS betaG s ts H b) (x:TX):betaI.chk s x=x.looked.any fun p=>sinceH H x.at_.toNat p:=by
  show chkB s x=_
  unfold chkB;rw [h.his]
theorem AtS.step (h:AtS betaG s ts H b) {n:UInt32} {t:TxT} (hf:findU ts n=some t) (hb:b≤1000) (x:OpM) :
    (opOk x=false∧doB s n x=.err s 1)∨(opOk x=true∧writes x=true∧∃ s',doB s n x=.put s'∧AtS betaG s' (setU ts n { t.x with own:=t.x.own++[chgOf x] }) H (b+1)) ∨
    (opOk x=true∧writes x=false∧∃ s',doB s n x=.look s' (scanR (changeR (rowsN H t.x.at_.toNat) t.x.own) (spanOf x) 256)∧AtS betaG s' (setU ts n { t.x with looked:=t.x.looked++[spanOf x] }) H (b+1)):=by
  have hf':findU s.txs n=some t:=by rw [h.txs];exact hf
  cases hx:opOk x with
  | false=>exact .inl ⟨rfl,by unfold doB;rw [hx];rfl⟩
  | true=>
    right
    cases hw:writes x with
    | true=>
      have e:doB s n x=.put { s with txs:=setU s.txs n { t.x with own:=t.x.own++[chgOf x] } }:=by simp [doB,hx,hf',hw]
      refine .inl ⟨rfl,rfl,_,e,?_,?_,h.his,h.at_⟩
      · obtain ⟨_,_,_,_,_,_,_,_,_,hok,_⟩:=betaG.put h.ok (by omega) e
        exact hok
      · show setU s.txs n _=_
        rw [h.txs]
    | false=>
      have e:doB s n x=.look { s with txs:=setU s.txs n { t.x with looked:=t.x.looked++[spanOf x] } } (scanR (changeR (rowsN s.H t.x.at_.toNat) t.x.own) (spanOf x) 256):=by simp [doB,hx,hf',hw]
      refine .inr ⟨rfl,rfl,{ s with txs:=setU s.txs n { t.x with looked:=t.x.looked++[spanOf x] } },e.trans (by rw [show rowsN s.H t.x.at_.toNat=rowsN H t.x.at_.toNat by rw [h.his]]),?_,?_,h.his,h.at_⟩
      · obtain ⟨_,_,_,_,_,_,_,_,_,hok,_⟩:=betaG.look h.ok (by omega) e
        exact hok
      · show setU s.txs n _=_
        rw [h.txs]
theorem AtS.own_le (h:AtS betaG s ts H b) {t:TxT} (ht:t ∈ ts):t.x.own.length≤b:=by
  have:=(betaG.ok h.ok).own_le (t:=t) (by rw [h.txs];exact ht);omega
abbrev tS (n:UInt32) (q:Nat) (a:UInt32) (L:List SpanM) (O:List ChgM):TxT:=⟨n,q,⟨a,L,O,[]⟩⟩
end
end Go.SL
namespace Go.SL.Fc
open Go Go.Proofs Go.SL
theorem k11:callable Tryz.prog 11=true:=by kernel_rfl
theorem k13:callable Tryz.prog 13=true:=by kernel_rfl
theorem k17:callable Tryz.prog 17=true:=by kernel_rfl
theorem k21:callable Tryz.prog 21=true:=by kernel_rfl
theorem k30:callable Tryz.prog 30=true:=by kernel_rfl
theorem k31:callable Tryz.prog 31=true:=by kernel_rfl
theorem k32:callable Tryz.prog 32=true:=by kernel_rfl
theorem k6:callable Tryz.prog 6=true:=by kernel_rfl
theorem k7:callable Tryz.prog 7=true:=by kernel_rfl
theorem k9:callable Tryz.prog 9=true:=by kernel_rfl
theorem p51:placesOf Tryz.prog 51=some [(0,1),(1,1),(2,1),(3,1)]:=by kernel_rfl
theorem s51:szOf Tryz.prog 51=some 4:=by kernel_rfl
theorem sl22:slOf Tryz.prog 22=some (54,8,72):=by kernel_rfl
theorem z51:zeroOf Tryz.prog 51=some [.int .u8 0,.string .empty,.string .empty,.int .u32 0]:=by kernel_rfl
end Go.SL.Fc
namespace Go.SL
open Go Go.Proofs Fc
theorem opened_spec {g:World}:Spec Tryz.prog g 30 [] [] fun K R=>∀ dp p,K (.tuple #[.pointer (some ⟨dp,0,none⟩),.pointer (some ⟨p,0,none⟩)]) (Bs p dp stF::TxsU TPB []::R):=by
 refine Spec.intro Tryz.func30 rfl Tryz.ntmps30 rfl fun R K hK=>?_
 refine WP.seq<|WP.reg<|WL.e e_assign<|WL.e e_assign<|WL.next<|WP.seq<|WP.reg ?_
 refine WL.h (h_call (New_spec 4096 (by decide)) k6 ?_)
 refine ⟨fun h=>absurd h (by omega),fun _ _ dp=>?_⟩
 refine WL.e e_move<|WL.e e_extract<|WL.e e_extract<|WL.e e_assign<|WL.e e_assign<|WL.next<|WP.seq<|WP.reg<|WL.e e_move ?_
 refine WL.h (h_call (BNew_spec (d:=newDisk 4096) (at0:=0) [] DiskLogB.first (by simp)) k7 ?_)
 intro p
 refine WL.e e_move<|WL.e e_extract<|WL.e e_extract<|WL.e e_assign<|WL.e e_assign<|WL.next<|WP.seq<|WP.seq<|WP.reg<|WL.e e_move<|WL.e e_neq<|WL.e e_move ?_
 refine WL.bool 17 rfl (fun hg=>?_) (fun hg=>?_)
 ·exact absurd hg (by decide) 
 ·skip
  refine WL.e e_move<|WL.e e_neq<|WL.e e_pick_f<|WL.next<|WP.cond_f rfl<|WP.skip<|PO.next<|WP.seq<|WP.reg<|WL.e e_move<|WL.e e_move<|WL.e e_assign<|WL.e e_assign<|WL.next<|WP.ret ?_
  exact PO.fin Tryz.results30 (rv_tmp (rv_tmp rv_nil)) (hK dp p)
theorem lput_spec {g:World} (k:ByteArray) (v:UInt32):Spec Tryz.prog g 32 [.string k,.int .u32 v.toNat] [] fun K R=>K (opPut k v).v R:=by
 refine Spec.intro Tryz.func32 rfl Tryz.ntmps32 rfl fun R K hK=>?_
 refine WP.seq<|WP.reg ?_
 refine WL.h (h_alloc z51 fun b1=>?_)
 refine WL.next<|WP.seq<|WP.reg<|WL.e e_move<|WL.e e_move<|WL.e (e_build z51 p51 (.o (.const (.int .u8 2)) rfl<|.o (.tmp 5) rfl<|.z (.string .empty)<|.o (.tmp 6) rfl<|.n)) ?_
 refine WL.h' (h_store s51 ?_)
 refine WL.next<|WP.ret ?_
 exact PO.fin Tryz.results32 (rv_cellN a51 rv_nil) hK
theorem lget_spec {g:World} (k:ByteArray):Spec Tryz.prog g 31 [.string k] [] fun K R=>K (opGet k).v R:=by
 refine Spec.intro Tryz.func31 rfl Tryz.ntmps31 rfl fun R K hK=>?_
 refine WP.seq<|WP.reg ?_
 refine WL.h (h_alloc z51 fun b1=>?_)
 refine WL.next<|WP.seq<|WP.reg<|WL.e e_move<|WL.e (e_build z51 p51 (.o (.const (.int .u8 1)) rfl<|.o (.tmp 3) rfl<|.z (.string .empty)<|.z (.int .u32 0)<|.n)) ?_
 refine WL.h' (h_store s51 ?_)
 refine WL.next<|WP.ret ?_
 exact PO.fin Tryz.results31 (rv_cellN a51 rv_nil) hK
theorem there_nil {g:World}:Spec Tryz.prog g 38 [.pointer none] [] fun K R=>K (.bool false) R:=by
 refine Spec.intro Tryz.func38 rfl Tryz.ntmps38 rfl fun R K hK=>?_
 refine WP.seq<|WP.reg<|WL.e e_assign<|WL.next<|WP.seq<|WP.reg<|WL.e e_move<|WL.e (e_pne pt29)<|WL.e e_move ?_
 refine WL.bool 5 rfl (fun h=>?_) (fun h=>?_)
 ·cases h 
 ·skip
  refine WL.skip<|WL.skip<|WL.skip<|WL.skip<|WL.skip<|WL.e e_pick_f<|WL.e e_assign<|WL.next<|WP.ret ?_
  exact PO.fin Tryz.results38 (rv_tmp rv_nil) hK
theorem Begin_nil {g:World} (n:UInt32):Spec Tryz.prog g 9 [.pointer none,.int .u32 n.toNat] [] fun K R=>K (.int .i64 2) R:=by
 refine Spec.intro Tryz.func9 rfl Tryz.ntmps9 rfl fun R K hK=>?_
 refine WP.seq<|WP.reg<|WL.e e_assign<|WL.next<|WP.seq<|WP.block<|WP.seq<|WP.reg<|WL.e e_move ?_
 refine WL.h (h_call (there_nil) k38 ?_)
 refine WL.e e_not<|WL.e e_assign<|WL.next<|WP.cond_t rfl<|WP.seq<|WP.reg<|WL.e e_assign<|WL.next<|WP.ret<|PO.blockR<|PO.past nofun ?_
 exact PO.fin Tryz.results9 (rv_tmp rv_nil) hK
set_option maxHeartbeats 4000000 in
theorem lives_spec {g:World}:Spec Tryz.prog g 5 [] [] fun K R=>K (.bool true) R:=by
 refine Spec.intro Tryz.func5 rfl Tryz.ntmps5 rfl fun R K hK=>?_
 refine WP.seq<|WP.reg<|WL.e e_assign<|WL.next<|WP.seq<|WP.reg ?_
 refine WL.h (h_call (opened_spec) k30 ?_)
 intro dp p
 have h0:AtS betaG stF [] [] 0:=AtS.first bet_first
 refine WL.e e_move<|WL.e e_extract<|WL.e e_extract<|WL.e e_assign<|WL.e e_assign<|WL.next<|WP.seq<|WP.seq<|WP.reg<|WL.e e_move<|WL.e (e_peq pt29)<|WL.e e_move ?_
 refine WL.bool 18 rfl (fun hg=>?_) (fun hg=>?_)
 ·cases hg 
 ·skip
  refine WL.e e_move ?_
  refine WL.h (h_call (BBegin_spec (s:=stF) 1) k9 ?_)
  intro q1
  obtain ⟨e0,h1⟩:=h0.beg 1 q1 (by decide) (by rfl) (by simp)
  rw [e0]
  generalize begS stF 1 q1=s1 at h1 ⊢
  simp only [List.nil_append,List.cons_append] at h1
  refine WL.e e_neq<|WL.e e_pick_f<|WL.e e_move ?_
  refine WL.bool 23 rfl (fun hg2=>?_) (fun hg2=>?_)
  ·exact absurd hg2 (by decide) 
  ·skip
   refine WL.e e_move ?_
   refine WL.h (h_call (BBegin_spec (s:=s1) 2) k9 ?_)
   intro q2
   obtain ⟨e0,h2⟩:=h1.beg 2 q2 (by decide) (by rfl) (by simp)
   rw [e0]
   generalize begS s1 2 q2=s2 at h2 ⊢
   simp only [List.nil_append,List.cons_append] at h2
   refine WL.e e_neq<|WL.e e_pick_f<|WL.next<|WP.cond_f rfl<|WP.skip<|PO.next<|WP.seq<|WP.reg<|WL.e e_move ?_
   refine WL.h (h_call (lget_spec kA) k31 ?_)
   refine WL.h (h_call (BDo_spec (s:=s2) 1 (opGet kA) h2.ok) k17 ?_)
   obtain ⟨s3,e0,h3⟩:=h2.get (n:=1) rfl keyA (by decide)
   rw [e0]
   try simp only [setU,List.map_cons,List.map_nil,List.nil_append,List.cons_append] at h3
   try simp (config:={ decide:=true }) only [if_true,if_false] at h3
   intro a1 m1 c1
   refine WL.next<|WP.seq<|WP.reg<|WL.e e_move ?_
   refine WL.h (h_call (lput_spec kA 5) k32 ?_)
   refine WL.h (h_call (BDo_spec (s:=s3) 2 (opPut kA 5) h3.ok) k17 ?_)
   obtain ⟨s4,e0,h4⟩:=h3.put (n:=2) rfl keyA 5 (by decide)
   rw [e0]
   try simp only [setU,List.map_cons,List.map_nil,List.nil_append,List.cons_append] at h4
   try simp (config:={ decide:=true }) only [if_true,if_false] at h4
   refine WL.e e_move<|WL.e e_extract<|WL.e e_extract ?_
   refine WL.h (h_alloc z61 fun b1=>?_)
   refine WL.h' (h_store s61 ?_)
   refine WL.e e_assign<|WL.next<|WP.seq<|WP.reg<|WL.e e_move ?_
   refine WL.h (h_call (BCommit_spec (s:=s4) 2 h4.ok (by decide)) k11 ?_)
   obtain ⟨e0,e1,h5⟩:=h4.com (n:=2) rfl (by rw [h4.chk];rfl) (by simp) (by simp) (by decide)
   rw [e0,e1]
   generalize comS betaI s4 2=s5 at h5 ⊢
   refine WL.e e_move<|WL.e e_extract<|WL.e e_extract<|WL.e e_assign<|WL.e e_assign<|WL.next<|WP.seq<|WP.reg<|WL.e e_move ?_
   refine WL.h (h_call (lget_spec kA) k31 ?_)
   refine WL.h (h_call (BDo_spec (s:=s5) 1 (opGet kA) h5.ok) k17 ?_)
   obtain ⟨s6,e0,h6⟩:=h5.get (n:=1) rfl keyA (by decide)
   rw [e0]
   try simp only [setU,List.map_cons,List.map_nil,List.nil_append,List.cons_append] at h6
   try simp (config:={ decide:=true }) only [if_true,if_false] at h6
   intro a2 m2 c2
   refine WL.e e_move<|WL.e e_extract<|WL.e e_extract ?_
   refine WL.h (h_alloc z61 fun b2=>?_)
   refine WL.h' (h_store s61 ?_)
   refine WL.e e_assign<|WL.next<|WP.seq<|WP.reg<|WL.e e_move ?_
   refine WL.h (h_call (BCommit_spec (s:=s6) 1 h6.ok (by decide)) k11 ?_)
   obtain ⟨e0,e1,h7⟩:=h6.comX (n:=1) rfl (by rw [h6.chk];exact Bool.or_eq_true_iff.2 (.inl (since_one _ _))) (by decide)
   rw [e0,e1]
   generalize comS betaI s6 1=s7 at h7 ⊢
   refine WL.e e_move<|WL.e e_extract<|WL.e e_extract<|WL.e e_assign<|WL.e e_assign<|WL.next<|WP.seq<|WP.reg<|WL.e e_assign<|WL.next<|WP.seq<|WP.reg<|WL.e e_move<|WL.e e_eql<|WL.e e_move ?_
   refine WL.bool 55 rfl (fun y1=>?_) (fun y1=>?_)
   ·skip
    refine WL.e e_move<|WL.e (e_eql32 (b:=1))<|WL.e e_pick_t<|WL.e e_move ?_
    refine WL.bool 59 rfl (fun y2=>?_) (fun y2=>?_)
    ·skip
     refine WL.e e_move<|WL.e e_eql<|WL.e e_pick_t<|WL.e e_move ?_
     refine WL.bool 63 rfl (fun y3=>?_) (fun y3=>?_)
     ·skip
      refine WL.e e_move<|WL.e e_eql<|WL.e e_pick_t<|WL.e e_move ?_
      refine WL.bool 67 rfl (fun y4=>?_) (fun y4=>?_)
      ·skip
       refine WL.e (e_fa f61_0)<|WL.e (e_load a59)<|WL.e (el_len (xs:=([]:List RowM)) sl59 sl_rl)<|WL.e e_eql<|WL.e e_pick_t<|WL.e e_move ?_
       refine WL.bool 73 rfl (fun y5=>?_) (fun y5=>?_)
       ·skip
        refine WL.e e_move<|WL.e e_eql<|WL.e e_pick_t<|WL.e e_move ?_
        refine WL.bool 77 rfl (fun y6=>?_) (fun y6=>?_)
        ·skip
         refine WL.e e_move ?_
         refine WL.h (h_call (BRows_spec (s:=s7) h7.ok) k21 ?_)
         intro a9 m9 c9
         rw [show s7.rows=[(⟨kA,5⟩:RowM)] from h7.rows]
         refine WL.e (el_len (xs:=[(⟨kA,5⟩:RowM)]) sl59 sl_rl)<|WL.e e_eql<|WL.e e_pick_t<|WL.e e_move ?_
         refine WL.bool 83 rfl (fun y7=>?_) (fun y7=>?_)
         ·skip
          refine WL.e e_move ?_
          refine WL.h (h_call (BBegin_spec (s:=s7) 0) k9 ?_)
          intro q9
          rw [(beg_zero s7 q9).1,(beg_zero s7 q9).2]
          refine WL.e e_eql<|WL.e e_pick_t<|WL.e e_move ?_
          refine WL.bool 88 rfl (fun y8=>?_) (fun y8=>?_)
          ·skip
           refine WL.e e_move ?_
           refine WL.h (h_call (BAbort_spec (s:=s7) 9 h7.ok) k13 ?_)
           obtain ⟨e0,e1⟩:=h7.abo0 (n:=9) rfl
           rw [e0,e1]
           refine WL.e e_eql<|WL.e e_pick_t<|WL.e e_move ?_
           refine WL.bool 93 rfl (fun y9=>?_) (fun y9=>?_)
           ·skip
            refine WL.e e_move ?_
            refine WL.h (h_call (Begin_nil 1) k9 ?_)
            refine WL.e e_eql<|WL.e e_pick_t<|WL.e e_assign<|WL.next<|WP.ret ?_
            exact PO.finE Tryz.results5 (rv_tmp rv_nil) rfl hK
           ·exact absurd y9 (by decide) 
          ·exact absurd y8 (by decide) 
         ·exact absurd y7 (by decide) 
        ·exact absurd y6 (by decide) 
       ·exact absurd y5 (by decide) 
      ·exact absurd y4 (by decide) 
     ·exact absurd y3 (by decide) 
    ·exact absurd y2 (by decide) 
   ·exact absurd y1 (by decide) 
end Go.SL

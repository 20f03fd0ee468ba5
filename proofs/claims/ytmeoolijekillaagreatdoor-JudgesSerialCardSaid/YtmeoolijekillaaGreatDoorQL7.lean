import Derived.Test.YtmeoolijekillaaGreatDoorQL6
import Derived.IntWalk
set_option linter.unusedSimpArgs false
set_option linter.unusedVariables false
set_option linter.unusedSectionVars false
namespace Go.SL
open Go
def sEq (a b:ByteArray):Bool:=a.toList == b.toList
def sLt (a b:ByteArray):Bool:=Op.bytesLess a.toList b.toList
section
variable {P : Program} {r : Option Nat} {g : World} {Γ : Env} {L : List HP} {dst : Option Tmp} {t : TypeId} {pos : String} {aft : Array Edge} {gd : Option (Nat × Bool)}
section
variable {xt yt : TypeId} {x y : Operand} {a b : ByteArray}
theorem e_seq (hx:ev Γ x=some (.string a):=by rfl) (hy:ev Γ y=some (.string b):=by rfl):EO P g ⟨dst,.binOp .eql xt x y yt,t,pos,aft,gd⟩ Γ L (.bool (sEq a b)):=e_bin hx hy fun w=>by rw [eqGuard_at_string];rfl
theorem e_sne (hx:ev Γ x=some (.string a):=by rfl) (hy:ev Γ y=some (.string b):=by rfl):EO P g ⟨dst,.binOp .neq xt x y yt,t,pos,aft,gd⟩ Γ L (.bool (!sEq a b)):=e_bin hx hy fun w=>by rw [eqGuard_at_string];rfl
theorem e_slt (hx:ev Γ x=some (.string a):=by rfl) (hy:ev Γ y=some (.string b):=by rfl):EO P g ⟨dst,.binOp .lss xt x y yt,t,pos,aft,gd⟩ Γ L (.bool (sLt a b)):=e_bin hx hy fun w=>by rw [eqGuard_at_string];rfl
theorem e_sle (hx:ev Γ x=some (.string a):=by rfl) (hy:ev Γ y=some (.string b):=by rfl):EO P g ⟨dst,.binOp .leq xt x y yt,t,pos,aft,gd⟩ Γ L (.bool (sLt a b || sEq a b)):=e_bin hx hy fun w=>by rw [eqGuard_at_string];rfl
theorem e_sgt (hx:ev Γ x=some (.string a):=by rfl) (hy:ev Γ y=some (.string b):=by rfl):EO P g ⟨dst,.binOp .gtr xt x y yt,t,pos,aft,gd⟩ Γ L (.bool (!(sLt a b || sEq a b))):=e_bin hx hy fun w=>by rw [eqGuard_at_string];rfl
theorem e_sadd (hx:ev Γ x=some (.string a)) (hy:ev Γ y=some (.string b)) (h:a.size+b.size < 9223372036854775808):EO P g ⟨dst,.binOp .add xt x y yt,t,pos,aft,gd⟩ Γ L (.string (a++b)):=e_bin hx hy fun w=>by
  rw [eqGuard_at_string]
  show (Op.stringOp .add a b).run P w=_
  unfold Op.stringOp
  simp only [IntKind.max_i64]
  rw [if_neg (by omega)];rfl
end
theorem e_call_b {b:Builtin} {args:List Operand} {ts:Array TypeId} {vs:List Value} {v:Value} (hv:evs Γ args=some vs)
    (h:∀ w cs,Sat g L w→(builtin b ts t cs vs.toArray).run P w=.ok (.value v) w):EO P g ⟨dst,.call ⟨.builtin b,args.toArray,ts⟩,t,pos,aft,gd⟩ Γ L v:=
  .of (by simp) fun ρ hρ w hw=>by
    have h1:args.toArray.map ρ=vs.toArray:=evs_mapA hv (fun x u hx=>hρ x u (by simp [Op.operands,Call.operands,hx]))
    simp only [execOp,resolve,h1]
    exact h w _ hw
theorem e_len_str {x:Operand} {T:TypeId} {s:ByteArray} (ht:P.underlying T=some .string) (hx:ev Γ x=some (.string s):=by rfl):EO P g ⟨dst,.call ⟨.builtin .len,#[x],#[T]⟩,t,pos,aft,gd⟩ Γ L (.int .i64 s.size):=
  e_call_b (args:=[x]) (vs:=[.string s]) (by simp [evs,hx]) fun w cs _=>by
    simp [builtin,Builtin.len_,run_underlying ht,goInt]
theorem e_len_sl {x:Operand} {T E z y n c:Nat} {a:Option Addr} (ht:slOf P T=some (E,z,y)) (hx:ev Γ x=some (.slice a n c):=by rfl):EO P g ⟨dst,.call ⟨.builtin .len,#[x],#[T]⟩,t,pos,aft,gd⟩ Γ L (.int .i64 n):=
  e_call_b (args:=[x]) (vs:=[.slice a n c]) (by simp [evs,hx]) fun w cs _=>by
    unfold slOf at ht
    split at ht
    case h_2=>cases ht
    case h_1 hu=>simp [builtin,Builtin.len_,run_underlying hu,goInt]
theorem e_maxI {x y:Operand} {T U:TypeId} {k j:IntKind} {a b:Int} (hx:ev Γ x=some (.int k a):=by rfl) (hy:ev Γ y=some (.int j b):=by rfl):EO P g ⟨dst,.call ⟨.builtin .max,#[x,y],#[T,U]⟩,t,pos,aft,gd⟩ Γ L (.int k (if b > a then b else a)):=
  e_call_b (args:=[x,y]) (vs:=[.int k a,.int j b]) (by simp [evs,hx,hy]) fun w cs _=>by
    simp [builtin,Builtin.max_,Builtin.max2]
def sMax (a b:ByteArray):ByteArray:=if sLt a b then b else a
theorem e_maxS {x y:Operand} {T U:TypeId} {a b:ByteArray} (hx:ev Γ x=some (.string a):=by rfl) (hy:ev Γ y=some (.string b):=by rfl):EO P g ⟨dst,.call ⟨.builtin .max,#[x,y],#[T,U]⟩,t,pos,aft,gd⟩ Γ L (.string (sMax a b)):=
  e_call_b (args:=[x,y]) (vs:=[.string a,.string b]) (by simp [evs,hx,hy]) fun w cs _=>by
    simp [builtin,Builtin.max_,Builtin.max2,Op.stringOp,asBool,sMax,sLt]
    by_cases h:Op.bytesLess a.toList b.toList=true <;> simp [h]
section
variable {xt yt : TypeId} {x y : Operand}
def eqOp (op:BinOp) (p:Bool):Bool:=match op with | .neq=>!p | _=>p
def eqSem (op:BinOp) (s:Sem Bool):Sem Value:=do pure (.bool (eqOp op (← s)))
theorem e_bin2 {op:BinOp} {u v:Value} {p:Bool} (hg:∀ w,(eqGuard op xt x y u v).run P w=.ok () w) (hb:binOp op xt u v=eqSem op (Op.equal xt u v))
    (hx:ev Γ x=some u) (hy:ev Γ y=some v) (h:∀ w,Sat g L w→(Op.equal xt u v).run P w=.ok p w):EO P g ⟨dst,.binOp op xt x y yt,t,pos,aft,gd⟩ Γ L (.bool (eqOp op p)):=
  .of (by simp) fun ρ hρ w hw=>by
    have h1:=hρ x u (by simp [Op.operands]) hx
    have h2:=hρ y v (by simp [Op.operands]) hy
    show ((do pure (Next.value (← (do eqGuard op xt x y (ρ x) (ρ y);binOp op xt (ρ x) (ρ y):Sem Value))):Sem Next)).run P w=_
    rw [h1,h2]
    simp [hg,hb,h w hw,eqSem]
def isPtr (P:Program) (T:TypeId):Bool:=match P.underlying T with | some (.pointer _)=>true | _=>false
theorem run_eq_ptr_nil {T:TypeId} (hT:isPtr P T=true) (a:Option Addr) (w:World):(Op.equal T (.pointer a) (.pointer none)).run P w=.ok a.isNone w:=by
  unfold isPtr at hT
  split at hT
  case h_2=>cases hT
  case h_1 e hu=>
    unfold Op.equal;rw [show Op.maxDepth=9999+1 from rfl];unfold Op.equalIn;simp only [Sem.run_bind,run_underlying hu,Result.andThen_ok]
    cases a <;> rfl
theorem e_peq {a:Option Addr} (hT:isPtr P xt=true) (hx:ev Γ x=some (.pointer a):=by rfl) (hy:ev Γ y=some (.pointer none):=by rfl):EO P g ⟨dst,.binOp .eql xt x y yt,t,pos,aft,gd⟩ Γ L (.bool a.isNone):=
  e_bin2 (op:=.eql) (fun w=>by rw [eqGuard_at_pointer];rfl) rfl hx hy fun w _=>run_eq_ptr_nil hT a w
theorem e_pne {a:Option Addr} (hT:isPtr P xt=true) (hx:ev Γ x=some (.pointer a):=by rfl) (hy:ev Γ y=some (.pointer none):=by rfl):EO P g ⟨dst,.binOp .neq xt x y yt,t,pos,aft,gd⟩ Γ L (.bool !a.isNone):=
  e_bin2 (op:=.neq) (fun w=>by rw [eqGuard_at_pointer];rfl) rfl hx hy fun w _=>run_eq_ptr_nil hT a w
end
theorem callFunc_run {f:FuncId} {fn:Func} {c:Code} (hf:P.funcs[f]?=some fn) (hb:fn.body=some c) (hn:(fn.name == "runtime.NumGoroutine")=false) (args:Array Value) (w:World):(callFunc f args).run P w=.ok (.enter f args) w:=by
  unfold callFunc
  simp only [Sem.run_bind,run_program,Result.andThen_ok,hf,hn,hb,Option.isNone]
  rfl
def callable (P:Program) (f:FuncId):Bool:=match P.funcs[f]? with
  | some fn=>fn.body.isSome && !(fn.name == "runtime.NumGoroutine")
  | none=>false
theorem callFunc_enter {f:FuncId} (h:callable P f=true) (args:Array Value) (w:World):(callFunc f args).run P w=.ok (.enter f args) w:=by
  unfold callable at h
  split at h
  case h_2=>cases h
  case h_1 fn hf=>
    simp at h
    obtain ⟨c,hb⟩:=Option.isSome_iff_exists.1 h.1
    exact callFunc_run hf hb (by simpa using h.2) args w
theorem HO.enter {o:Oper} {K:Value→List HP→Prop} {f:FuncId} {args:List Value} {Pre R:List HP} {T:(Value→List HP→Prop)→List HP→Prop} (hop:∀ c,o.op≠.defer c) (hs:Spec P g f args Pre T) (hL:Split L Pre R)
    (hrun:∀ a w,Γ.ok a→(execOp a.eval o).run P w=.ok (.enter f args.toArray) w) (hK:T K R):HO P r g o Γ L K:=by
  intro a w Q next ha hw hn
  refine ⟨about_FR,?_⟩
  rw [Oper.semAt_eq _ _ _ hop,hrun a w ha]
  refine ⟨depth_FR r 0,callsIn_fr ?_⟩
  refine (hs R K w (hw.conv fun _=>hL.to) hK).mono ?_
  rintro e w' ⟨v,M,rfl,hk,hw'⟩
  exact hn v M w' hk hw'
where
  callsIn_fr {f:FuncId} {args:Array Value} {w:World} {R:Ending→World→Prop} (h:Calls P f args w R):CallsIn (FR r) (0 - 1) P f args w R:=(callsIn_wide (n:=0 - 1)).2 h
theorem h_call {f:FuncId} {asq:List Operand} {ts:Array TypeId} {args:List Value} {Pre R:List HP} {T:(Value→List HP→Prop)→List HP→Prop} {K:Value→List HP→Prop} (hs:Spec P g f args Pre T) (hf:callable P f=true)
    (hK:T K R) (ha:evs Γ asq=some args:=by rfl) (hL:Split L Pre R:=by repeat first | exact .nil | exact Pick.z | apply Pick.s | apply Split.cons):HO P r g ⟨dst,.call ⟨.value (.func f),asq.toArray,ts⟩,t,pos,aft,gd⟩ Γ L K:=
  HO.enter (by simp) hs hL (fun a w hΓ=>by
    have h1:asq.toArray.map a.eval=args.toArray:=evs_mapA ha (fun x u _ hx=>ev_ok hx hΓ)
    show (do let d ← resolve a.eval ⟨.value (.func f),asq.toArray,ts⟩ t;invoke d.target d.args:Sem Next).run P w=_
    simp only [resolve,h1,Act.eval,Deferred.ofValue,Sem.run_bind,Sem.run_pure,Result.andThen_ok,invoke]
    rw [callFunc_enter hf];simp) hK
theorem h_callv {f:FuncId} {x:Operand} {asq:List Operand} {ts:Array TypeId} {fs cs args:List Value} {Pre R:List HP} {T:(Value→List HP→Prop)→List HP→Prop} {K:Value→List HP→Prop} (hs:Spec P g f (fs++args++cs) Pre T) (hf:callable P f=true)
    (hK:T K R) (hx:ev Γ x=some (.func (.func f) fs.toArray cs.toArray):=by rfl) (ha:evs Γ asq=some args:=by rfl) (hL:Split L Pre R:=by repeat first | exact .nil | exact Pick.z | apply Pick.s | apply Split.cons):HO P r g ⟨dst,.call ⟨.value x,asq.toArray,ts⟩,t,pos,aft,gd⟩ Γ L K:=
  HO.enter (by simp) hs hL (fun a w hΓ=>by
    have h1:asq.toArray.map a.eval=args.toArray:=evs_mapA ha (fun x u _ hx=>ev_ok hx hΓ)
    show (do let d ← resolve a.eval ⟨.value x,asq.toArray,ts⟩ t;invoke d.target d.args:Sem Next).run P w=_
    simp only [resolve,h1,ev_ok hx hΓ,Deferred.ofValue,Sem.run_bind,Sem.run_pure,Result.andThen_ok,invoke]
    rw [callFunc_enter hf];simp) hK
theorem run_newVar {T:TypeId} {v:Value} (w:World):(newVar T v).run P w=.ok ⟨w.heap.size,0,none⟩ { w with heap:=w.heap.push (.cells v.cells T) }:=by
  simp [newVar,newRow]
theorem h_alloc {T:TypeId} {zs:List Value} {K:Value→List HP→Prop} (hz:zeroOf P T=some zs) (hK:∀ b,K (.pointer (some ⟨b,0,none⟩)) (cl b T zs::L)):HO P r g ⟨dst,.alloc T,t,pos,aft,gd⟩ Γ L K:=
  HO.run (by simp) fun a w _ hw=>by
    unfold zeroOf at hz
    cases hi:(P.info? T).bind (·.zero) with
    | none=>rw [hi] at hz;cases hz
    | some zv=>
      rw [hi] at hz
      simp at hz
      have hz':zv.cells=zs.toArray:=by rw [← hz]
      refine ⟨_,_,_,?_,hK w.heap.size,hw.push (.cells zs.toArray T (0,0))⟩
      simp [execOp,Instr.alloc,run_zeroValue hi,run_newVar,hz']
theorem h_box {T:TypeId} {x:Operand} {v:Value} {zs:List Value} {K:Value→List HP→Prop} (hK:∀ b,K (.pointer (some ⟨b,0,none⟩)) (cl b T zs::L)) (hx:ev Γ x=some v:=by rfl) (hz:v.cells=zs.toArray:=by rfl):HO P r g ⟨dst,.box T x,t,pos,aft,gd⟩ Γ L K:=
  HO.run (by simp) fun a w ha hw=>by
    refine ⟨_,_,_,?_,hK w.heap.size,hw.push (.cells zs.toArray T (0,0))⟩
    simp [execOp,Instr.box,ev_ok hx ha,run_newVar,hz]
def splice:List Value→Nat→List Value→List Value
  | l,_,[]=>l
  | l,o,v::vs=>splice (l.set o v) (o+1) vs
inductive Spl:List Value→Nat→List Value→List Value→Prop
  | done {l:List Value} {o:Nat}:Spl l o [] l
  | here {a z:Value} {l zs m:List Value} {o:Nat}:Nat.beq o 0=true→Spl l 0 zs m→Spl (a::l) o (z::zs) (z::m)
  | there {a:Value} {l zs m:List Value} {o:Nat}:Nat.beq o 0=false→Spl l (Nat.pred o) zs m→Spl (a::l) o zs (a::m)
theorem splice_cons (a:Value):∀ (zs l:List Value) (o:Nat),splice (a::l) (o+1) zs=a::splice l o zs
  | [],_,_=>rfl
  | z::zs,l,o=>by simp only [splice,List.set_cons_succ];exact splice_cons a zs _ _
theorem Spl.ok {l zs m:List Value} {o:Nat} (h:Spl l o zs m):splice l o zs=m∧(o+zs.length≤l.length∨zs=[]):=by
  induction h with
  | done=>exact ⟨rfl,.inr rfl⟩
  | @here a z l zs m o h _ ih=>
    have:=Nat.eq_of_beq_eq_true h;subst this
    refine ⟨?_,.inl ?_⟩
    · simp only [splice,List.set_cons_zero];rw [splice_cons,ih.1]
    · simp only [List.length_cons]
      rcases ih.2 with h0 | h0
      · omega
      · subst h0;simp
  | @there a l zs m o h _ ih=>
    have hn:=ne_of_beq_no h
    obtain ⟨k,rfl⟩:∃ k,o=k+1:=⟨o - 1,by omega⟩
    simp only [Nat.pred_succ] at ih
    refine ⟨by rw [splice_cons,ih.1],?_⟩
    simp only [List.length_cons]
    rcases ih.2 with h0 | h0
    · left;omega
    · exact .inr h0
theorem run_store_cl {w:World} {b o:Nat} {l:List Value} {T:TypeId} {v:Value} (h:w.heap[b]?=some (.cells l.toArray T (0,0))) (ho:o < l.length) (hv:v.oneCell'=true) :
    ∃ w',(store ⟨b,o,none⟩ v).run P w=.ok () w'∧w'.os=w.os∧w'.tape=w.tape∧w'.output=w.output∧w'.heap.size=w.heap.size∧w'.heap[b]?=some (.cells (l.set o v).toArray T (0,0))∧∀ i,i≠b→w'.heap[i]?=w.heap[i]?:=by
  have hc:isCl w b l:=⟨(T,(0,0)),h⟩
  refine ⟨w.setCell ⟨b,o,none⟩ v,?_,rfl,rfl,rfl,by simp [World.setCell],?_,fun i hi=>?_⟩
  · rw [run_store _ _ _ _ _ hv,hc.cell,List.getElem?_eq_getElem ho,show w.frozen? ⟨b,o,none⟩=false by simp [World.frozen?,h]];rfl
  · simp only [World.setCell]
    rw [Array.getElem?_modify]
    simp [h]
  · simp only [World.setCell]
    rw [Array.getElem?_modify]
    simp [Ne.symm hi]
theorem run_storeCells {b:Nat} {T:TypeId}:∀ (vs:List Value) (i o:Nat) (l:List Value) (w:World),w.heap[b]?=some (.cells l.toArray T (0,0))→o+i+vs.length≤l.length→(∀ v ∈ vs,v.oneCell'=true) →
    ∃ w',(storeCells ⟨b,o,none⟩ vs i).run P w=.ok () w'∧w'.os=w.os∧w'.tape=w.tape∧w'.output=w.output∧w'.heap.size=w.heap.size∧w'.heap[b]?=some (.cells (splice l (o+i) vs).toArray T (0,0))∧∀ j,j≠b→w'.heap[j]?=w.heap[j]?
  | [],i,o,l,w,h,_,_=>⟨w,by simp [storeCells],rfl,rfl,rfl,rfl,h,fun _ _=>rfl⟩
  | v::vs,i,o,l,w,h,hle,h1=>by
    simp only [List.length_cons] at hle
    obtain ⟨w1,r1,a1,a2,a3,a4,a5,a6⟩:=run_store_cl (P:=P) (o:=o+i) h (by omega) (h1 v (by simp))
    obtain ⟨w2,r2,b1,b2,b3,b4,b5,b6⟩:=run_storeCells vs (i+1) o _ w1 a5 (by simp;omega) (fun u hu=>h1 u (by simp [hu]))
    refine ⟨w2,?_,b1.trans a1,b2.trans a2,b3.trans a3,b4.trans a4,b5,fun j hj=>(b6 j hj).trans (a6 j hj)⟩
    unfold storeCells
    rw [add_none]
    simp only [Sem.run_bind,r1,Result.andThen_ok]
    exact r2
theorem run_storeVar {T U:TypeId} {b o:Nat} {l zs:List Value} {w:World} {v:Value} {n:Nat} (hT:szOf P T=some n) (hz:v.cells=zs.toArray) (hn:zs.length=n) (h:w.heap[b]?=some (.cells l.toArray U (0,0))) (hle:o+zs.length≤l.length∨zs=[]) (h1:∀ v ∈ zs,v.oneCell'=true) :
    ∃ w',(storeVar T ⟨b,o,none⟩ v).run P w=.ok () w'∧w'.os=w.os∧w'.tape=w.tape∧w'.output=w.output∧w'.heap.size=w.heap.size∧w'.heap[b]?=some (.cells (splice l o zs).toArray U (0,0))∧∀ j,j≠b→w'.heap[j]?=w.heap[j]?:=by
  rcases hle with hle | rfl
  · obtain ⟨w',hr,h2⟩:=run_storeCells (P:=P) (T:=U) zs 0 o l w h (by omega) h1
    refine ⟨w',?_,by simpa using h2⟩
    unfold storeVar
    simp [run_sizeOf hT,hz,hn,hr]
  · refine ⟨w,?_,rfl,rfl,rfl,rfl,h,fun _ _=>rfl⟩
    unfold storeVar
    simp [run_sizeOf hT,hz,← hn,storeCells]
def ones:List Value→Bool
  | []=>true
  | v::l=>v.oneCell' && ones l
theorem ones_ok:∀ {l:List Value},ones l=true→∀ v ∈ l,v.oneCell'=true
  | [],_,v,hv=>by cases hv
  | u::l,h,v,hv=>by
    simp only [ones,Bool.and_eq_true] at h
    rcases List.mem_cons.1 hv with rfl | hv
    · exact h.1
    · exact ones_ok h.2 v hv
theorem h_store {T U:TypeId} {x y:Operand} {b o n:Nat} {l zs l':List Value} {M M0:List HP} {v:Value} {K:Value→List HP→Prop} (hT:szOf P T=some n) (hK:K (.tuple #[]) M)
    (hx:ev Γ x=some (.pointer (some ⟨b,o,none⟩)):=by rfl) (hy:ev Γ y=some v:=by rfl) (hz:v.cells=zs.toArray:=by rfl) (_hp0:Pick L (cl b U l) M0:=by repeat first | exact .z | apply Pick.s) (hl':Spl l o zs l':=by repeat first | exact Spl.done | apply Spl.here rfl | apply Spl.there rfl) (hp:Put L (cl b U l) (cl b U l') M:=by repeat first | exact .z | apply Put.s) (hn:zs.length=n:=by rfl) (h1:ones zs=true:=by rfl) :
    HO P r g ⟨dst,.store T x y,t,pos,aft,gd⟩ Γ L K:=
  HO.run_skip (by simp) fun a w ha hw=>by
    obtain ⟨hs,hle⟩:=hl'.ok
    subst hs
    obtain ⟨R,p1,_⟩:=hp.picks
    obtain ⟨w',hr,a1,a2,a3,a4,a5,a6⟩:=run_storeVar (P:=P) (T:=T) (o:=o) (v:=v) hT hz hn (hw.get p1) hle (ones_ok h1)
    refine ⟨M,w',?_,hK,hw.set hp w' a1 a2 a3 a4 a5 a6⟩
    simp [execOp,ev_ok hx ha,ev_ok hy ha,Instr.storeAt,Instr.sureAddr,hr]
end
end Go.SL
namespace Go.SL
open Go
def RdS (S:Piece) (z:Nat) (u:Value) (n:Nat) (cs:List Value):Prop:=
  (n=0∧cs=[]∧∃ a c,u=.slice a 0 c) ∨
  ∃ (b o c:Nat) (l:List Value) (t:TypeId × (Nat × Nat)),u=.slice (some ⟨b,o,none⟩) n c∧n≤c∧S b=some (.cells (List.toArray l) t.1 t.2)∧o+c * z≤l.length∧cs=(l.drop o).take (n * z)
def Rd (A:HP) (z:Nat) (u:Value) (n:Nat) (cs:List Value):Prop:=∀ S,A S→RdS S z u n cs
def Own (E:TypeId) (z:Nat) (u:Value) (n:Nat) (cs:List Value):HP:=fun S=>
  (n=0∧cs=[]∧∃ a,u=.slice a 0 0) ∨
  ∃ b o c l,u=.slice (some ⟨b,o,none⟩) n c∧n≤c∧c < 9223372036854775808∧S b=some (.cells (List.toArray l) E (0,0))∧o+c * z≤l.length∧cs=(l.drop o).take (n * z)
theorem own_rd {E:TypeId} {z n:Nat} {u:Value} {cs:List Value}:Rd (Own E z u n cs) z u n cs:=fun S h=>by
  rcases h with ⟨h1,h2,a,h3⟩ | ⟨b,o,c,l,h1,h2,_,h4,h5,h6⟩
  · exact .inl ⟨h1,h2,a,0,h3⟩
  · exact .inr ⟨b,o,c,l,(E,(0,0)),h1,h2,h4,h5,h6⟩
theorem cl_rd {b z n c o:Nat} {t:TypeId} {l cs:List Value} (hn:n≤c) (hc:o+c * z≤l.length) (hcs:(l.drop o).take (n * z)=cs):Rd (cl b t l) z (.slice (some ⟨b,o,none⟩) n c) n cs:=
  fun _ h=>.inr ⟨b,o,c,l,(t,(0,0)),rfl,hn,h,hc,hcs.symm⟩
theorem nil_rd {A:HP} {z:Nat} {a:Option Addr} {c:Nat}:Rd A z (.slice a 0 c) 0 []:=fun _ _=>.inl ⟨rfl,rfl,a,c,rfl⟩
theorem RdS.len {S:Piece} {z n:Nat} {u:Value} {cs:List Value} (h:RdS S z u n cs):cs.length=n * z:=by
  rcases h with ⟨rfl,rfl,_⟩ | ⟨b,o,c,l,t,_,hn,_,hl,rfl⟩
  · simp
  · have:n * z≤c * z:=Nat.mul_le_mul_right z hn
    simp;omega
def elA:Value→Nat→Value
  | .slice (some a) _ _,k=>.pointer (some (a.add k))
  | _,_=>.pointer none
section
variable {P : Program} {r : Option Nat} {g : World} {Γ : Env} {L M : List HP} {A : HP} {dst : Option Tmp} {t : TypeId} {pos : String} {aft : Array Edge} {gd : Option (Nat × Bool)}
theorem Sat.rd {w:World} {z n:Nat} {u:Value} {cs:List Value} (h:Sat g L w) (hp:Pick L A M) (hA:Rd A z u n cs):RdS (heapOf w) z u n cs:=by
  obtain ⟨S1,S2,_,h1,_,h3,_⟩:=hp.to h.heap
  rcases hA S1 h3 with h | ⟨b,o,c,l,t,e1,e2,e3,e4,e5⟩
  · exact .inl h
  · exact .inr ⟨b,o,c,l,t,e1,e2,h1 _ _ e3,e4,e5⟩
theorem e_len_rd {x:Operand} {T E z' y z n:Nat} {u:Value} {cs:List Value} (ht:slOf P T=some (E,z',y)) (hx:ev Γ x=some u) (hA:Rd A z u n cs) (hp:Pick L A M:=by repeat first | exact .z | apply Pick.s) :
    EO P g ⟨dst,.call ⟨.builtin .len,#[x],#[T]⟩,t,pos,aft,gd⟩ Γ L (.int .i64 n):=
  e_call_b (args:=[x]) (vs:=[u]) (by simp [evs,hx]) fun w cs' hw=>by
    have hr:=hw.rd hp hA
    unfold slOf at ht
    split at ht
    case h_2=>cases ht
    case h_1 hu=>
      rcases hr with ⟨rfl,_,a,c,rfl⟩ | ⟨b,o,c,l,t,rfl,_⟩ <;> simp [builtin,Builtin.len_,run_underlying hu,goInt]
theorem e_ia_rd {x i:Operand} {s e z y n j:Nat} {k:IntKind} {u:Value} {cs:List Value} (hs:slOf P s=some (e,z,y)) (hx:ev Γ x=some u) (hi:ev Γ i=some (.int k j)) (hA:Rd A z u n cs) (hj:j < n) (hp:Pick L A M:=by repeat first | exact .z | apply Pick.s) :
    EO P g ⟨dst,.indexAddr s x i,t,pos,aft,gd⟩ Γ L (elA u (j * z)):=
  .of (by simp) fun ρ hρ w hw=>by
    have hr:=hw.rd hp hA
    unfold slOf at hs
    split at hs
    case h_2=>cases hs
    case h_1 hu=>
      simp only [Option.map_eq_some_iff] at hs
      obtain ⟨inf,hinf,hs⟩:=hs
      cases hs
      have hz:szOf P e=some inf.size:=by simp [szOf,hinf]
      rcases hr with ⟨rfl,_⟩ | ⟨b,o,c,l,t,rfl,hn,_,hl,rfl⟩
      · omega
      · simp [execOp,hρ x _ (by simp [Op.operands]) hx,hρ i _ (by simp [Op.operands]) hi,Instr.indexAt,asIntOf,run_underlying hu,run_sizeOf hz,hj,elA]
theorem RdS.base {S:Piece} {z n k:Nat} {u:Value} {cs:List Value} (h:RdS S z u n cs) (hk:k < n * z):∃ (b o c:Nat) (l:List Value) (t:TypeId × (Nat × Nat)),elA u k=.pointer (some ⟨b,o+k,none⟩)∧u=.slice (some ⟨b,o,none⟩) n c∧S b=some (.cells (List.toArray l) t.1 t.2)∧(∀ i,i < n * z→cs[i]?=l[o+i]?)∧o+n * z≤l.length∧cs=(l.drop o).take (n * z):=by
  rcases h with ⟨rfl,_⟩ | ⟨b,o,c,l,t,rfl,hn,hS,hl,rfl⟩
  · simp at hk
  · have:n * z≤c * z:=Nat.mul_le_mul_right z hn
    exact ⟨b,o,c,l,t,by simp [elA,add_none],rfl,hS,fun i hi=>by rw [List.getElem?_take_of_lt hi,List.getElem?_drop],by omega,rfl⟩
theorem e_fa_rd {x:Operand} {s i f k z n:Nat} {u:Value} {cs:List Value} (hf:fldOf P s i=some f) (hx:ev Γ x=some (elA u k)) (hA:Rd A z u n cs) (hk:k < n * z) (hp:Pick L A M:=by repeat first | exact .z | apply Pick.s) :
    EO P g ⟨dst,.fieldAddr s x i,t,pos,aft,gd⟩ Γ L (elA u (k+f)):=fun ρ w hρ hw=>by
  obtain ⟨b,o,c,l,t',h1,h2,_⟩:=(hw.rd hp hA).base hk
  have h:=e_fa (P:=P) (g:=g) (Γ:=Γ) (L:=L) (dst:=dst) (t:=t) (pos:=pos) (aft:=aft) (gd:=gd) (x:=x) (b:=b) (o:=o+k) hf (hx.trans (congrArg some h1)) ρ w hρ hw
  subst h2
  simpa [elA,add_none,Nat.add_assoc] using h
theorem e_load_rd {x:Operand} {T k z n:Nat} {u v:Value} {cs:List Value} (ht:aggOf P T=some none) (hx:ev Γ x=some (elA u k)) (hA:Rd A z u n cs) (hv:cs[k]?=some v) (hp:Pick L A M:=by repeat first | exact .z | apply Pick.s) :
    EO P g ⟨dst,.load T x,t,pos,aft,gd⟩ Γ L v:=
  .of (by simp) fun ρ hρ w hw=>by
    have hr:=hw.rd hp hA
    have hk:k < n * z:=by
      rw [← hr.len]
      rcases Nat.lt_or_ge k cs.length with h | h
      · exact h
      · rw [List.getElem?_eq_none h] at hv;cases hv
    obtain ⟨b,o,c,l,t',h1,h2,h3,h4,h5,_⟩:=hr.base hk
    have hc:isCl w b l:=⟨t',h3⟩
    have hx':=hρ x _ (by simp [Op.operands]) hx
    rw [h1] at hx'
    simp [execOp,hx',Instr.loadAt,Instr.sureAddr,run_loadVar1 ht hc ((h4 k hk).symm.trans hv)]
theorem e_loadN_rd {x:Operand} {T k z n m:Nat} {u:Value} {cs vs:List Value} (ht:aggOf P T=some (some m)) (hx:ev Γ x=some (elA u k)) (hA:Rd A z u n cs) (hv:(cs.drop k).take m=vs) (hk:k+m≤n * z) (hm:0 < m) (hp:Pick L A M:=by repeat first | exact .z | apply Pick.s) :
    EO P g ⟨dst,.load T x,t,pos,aft,gd⟩ Γ L (.agg vs.toArray):=
  .of (by simp) fun ρ hρ w hw=>by
    obtain ⟨b,o,c,l,t',h1,h2,h3,h4,h5,h6⟩:=(hw.rd hp hA).base (k:=k) (by omega)
    have hc:isCl w b l:=⟨t',h3⟩
    have hx':=hρ x _ (by simp [Op.operands]) hx
    rw [h1] at hx'
    have e:(l.drop (o+k)).take m=vs:=by
      rw [← hv,h6,List.drop_take,List.take_take,List.drop_drop,Nat.min_eq_left (by omega)]
    simp [execOp,hx',Instr.loadAt,Instr.sureAddr,run_loadVarN ht hc (b:=b) (o:=o+k) (by omega),e]
structure EncOk {α:Type} (z:Nat) (enc:α→List Value):Prop where
  len:∀ x,(enc x).length=z
  one:∀ x,ones (enc x)=true
theorem flat_len {α:Type} {z:Nat} {enc:α→List Value} (he:EncOk z enc) (xs:List α):(xs.flatMap enc).length=xs.length * z:=by
  induction xs with
  | nil=>simp
  | cons x xs ih=>simp [ih,he.len,Nat.add_mul];omega
theorem flat_drop {α:Type} {z:Nat} {enc:α→List Value} (he:EncOk z enc) (xs:List α) (j:Nat):(xs.flatMap enc).drop (j * z)=(xs.drop j).flatMap enc:=by
  induction xs generalizing j with
  | nil=>simp
  | cons x xs ih=>
    cases j with
    | zero=>simp
    | succ j=>
      simp only [List.flatMap_cons,List.drop_succ_cons]
      rw [List.drop_append,he.len,← ih]
      have e1:(j+1) * z - z=j * z:=by rw [Nat.add_mul];omega
      rw [e1,List.drop_eq_nil_of_le (by rw [he.len,Nat.add_mul];omega)];rfl
theorem flat_take {α:Type} {z:Nat} {enc:α→List Value} (he:EncOk z enc) (xs:List α) (j:Nat):(xs.flatMap enc).take (j * z)=(xs.take j).flatMap enc:=by
  induction xs generalizing j with
  | nil=>simp
  | cons x xs ih=>
    cases j with
    | zero=>simp
    | succ j=>
      simp only [List.flatMap_cons,List.take_succ_cons]
      rw [List.take_append,he.len,← ih]
      have e1:(j+1) * z - z=j * z:=by rw [Nat.add_mul];omega
      rw [e1,List.take_of_length_le (by rw [he.len,Nat.add_mul];omega)]
theorem flat_at {α:Type} {z:Nat} {enc:α→List Value} (he:EncOk z enc) {xs:List α} {j:Nat} {x:α} (hx:xs[j]?=some x) (f:Nat) (hf:f < z):(xs.flatMap enc)[j * z+f]?=(enc x)[f]?:=by
  have hlt:j < xs.length:=by
    rcases Nat.lt_or_ge j xs.length with h | h
    · exact h
    · rw [List.getElem?_eq_none h] at hx;cases hx
  have e:xs.drop j=x::xs.drop (j+1):=by
    rw [List.drop_eq_getElem_cons hlt]
    have:=List.getElem?_eq_getElem hlt
    rw [this] at hx;cases hx;rfl
  rw [← List.getElem?_drop,flat_drop he,e,List.flatMap_cons,List.getElem?_append_left (by rw [he.len];exact hf)]
theorem flat_el {α:Type} {z:Nat} {enc:α→List Value} (he:EncOk z enc) {xs:List α} {j:Nat} {x:α} (hx:xs[j]?=some x):((xs.flatMap enc).drop (j * z)).take z=enc x:=by
  have hlt:j < xs.length:=by
    rcases Nat.lt_or_ge j xs.length with h | h
    · exact h
    · rw [List.getElem?_eq_none h] at hx;cases hx
  have e:xs.drop j=x::xs.drop (j+1):=by
    rw [List.drop_eq_getElem_cons hlt]
    have:=List.getElem?_eq_getElem hlt
    rw [this] at hx;cases hx;rfl
  rw [flat_drop he,e,List.flatMap_cons,List.take_append_of_le_length (by rw [he.len];omega),List.take_of_length_le (by rw [he.len];omega)]
def RL {α:Type} (A:HP) (z:Nat) (enc:α→List Value) (u:Value) (xs:List α):Prop:=Rd A z u xs.length (xs.flatMap enc)
def Sl {α:Type} (E z:Nat) (enc:α→List Value) (u:Value) (xs:List α):HP:=Own E z u xs.length (xs.flatMap enc)
theorem sl_rl {α:Type} {E z:Nat} {enc:α→List Value} {u:Value} {xs:List α}:RL (Sl E z enc u xs) z enc u xs:=own_rd
theorem nil_rl {α:Type} {z:Nat} {enc:α→List Value} {a:Option Addr} {c:Nat}:RL A z enc (.slice a 0 c) ([]:List α):=nil_rd
section lists
variable {α : Type} {z : Nat} {enc : α → List Value} {u : Value} {xs : List α}
theorem el_len {x:Operand} {T E z' y:Nat} (ht:slOf P T=some (E,z',y)) (hA:RL A z enc u xs) (hx:ev Γ x=some u:=by rfl) (hp:Pick L A M:=by repeat first | exact .z | apply Pick.s) :
    EO P g ⟨dst,.call ⟨.builtin .len,#[x],#[T]⟩,t,pos,aft,gd⟩ Γ L (.int .i64 xs.length):=e_len_rd ht hx hA hp
theorem el_ia {x i:Operand} {s e y j:Nat} {k:IntKind} (hs:slOf P s=some (e,z,y)) (hA:RL A z enc u xs) (hj:j < xs.length) (hx:ev Γ x=some u:=by rfl) (hi:ev Γ i=some (.int k j):=by rfl) (hp:Pick L A M:=by repeat first | exact .z | apply Pick.s) :
    EO P g ⟨dst,.indexAddr s x i,t,pos,aft,gd⟩ Γ L (elA u (j * z)):=e_ia_rd hs hx hi hA hj hp
theorem el_fa {x:Operand} {s i f j:Nat} (hf:fldOf P s i=some f) (hA:RL A z enc u xs) (hj:j < xs.length) (hz:0 < z:=by decide) (hx:ev Γ x=some (elA u (j * z)):=by rfl) (hp:Pick L A M:=by repeat first | exact .z | apply Pick.s) :
    EO P g ⟨dst,.fieldAddr s x i,t,pos,aft,gd⟩ Γ L (elA u (j * z+f)):=e_fa_rd hf hx hA (by
      have:(j+1) * z≤xs.length * z:=Nat.mul_le_mul_right z hj
      rw [Nat.add_mul] at this;omega) hp
theorem el_load {x:Operand} {T j f:Nat} {v:Value} {a:α} (ht:aggOf P T=some none) (he:EncOk z enc) (hA:RL A z enc u xs) (ha:xs[j]?=some a) (hx:ev Γ x=some (elA u (j * z+f)):=by rfl) (hf:Nat.blt f z=true:=by rfl) (hv:(enc a)[f]?=some v:=by rfl) (hp:Pick L A M:=by repeat first | exact .z | apply Pick.s) :
    EO P g ⟨dst,.load T x,t,pos,aft,gd⟩ Γ L v:=e_load_rd ht hx hA ((flat_at he ha f (by simpa using hf)).trans hv) hp
theorem el_load0 {x:Operand} {T j:Nat} {v:Value} {a:α} (ht:aggOf P T=some none) (he:EncOk z enc) (hA:RL A z enc u xs) (ha:xs[j]?=some a) (hz:0 < z:=by decide) (hx:ev Γ x=some (elA u (j * z)):=by rfl) (hv:(enc a)[0]?=some v:=by rfl) (hp:Pick L A M:=by repeat first | exact .z | apply Pick.s) :
    EO P g ⟨dst,.load T x,t,pos,aft,gd⟩ Γ L v:=e_load_rd ht hx hA ((flat_at he ha 0 hz).trans hv) hp
theorem idx_lt {j:Nat} {a:α} (ha:xs[j]?=some a):j < xs.length:=by
  rcases Nat.lt_or_ge j xs.length with h | h
  · exact h
  · rw [List.getElem?_eq_none h] at ha;cases ha
theorem el_loadN {x:Operand} {T j:Nat} {vs:List Value} {a:α} (ht:aggOf P T=some (some z)) (he:EncOk z enc) (hA:RL A z enc u xs) (ha:xs[j]?=some a) (hz:0 < z:=by decide) (hx:ev Γ x=some (elA u (j * z)):=by rfl) (hv:Ext (enc a) 0 z vs:=by repeat first | exact Ext.done rfl | apply Ext.here rfl rfl | apply Ext.there rfl) (hp:Pick L A M:=by repeat first | exact .z | apply Pick.s) :
    EO P g ⟨dst,.load T x,t,pos,aft,gd⟩ Γ L (.agg vs.toArray):=by
  refine e_loadN_rd ht hx hA ?_ ?_ hz hp
  · rw [flat_el he ha,← hv.ok.1,List.drop_zero,List.take_of_length_le (by rw [he.len];omega)]
  · have:(j+1) * z≤xs.length * z:=Nat.mul_le_mul_right z (idx_lt ha)
    rw [Nat.add_mul] at this;omega
end lists
end
end Go.SL
namespace Go.SL
open Go
def subV (u:Value) (lo hi:Nat) (mx:Option Nat) (z:Nat):Value:=match u with
  | .slice a _ c=>.slice (if mx.getD c=lo then a else a.map (·.add (lo * z))) (hi - lo) (mx.getD c - lo)
  | v=>v
theorem RdS.sub {S:Piece} {z n lo hi:Nat} {u:Value} {cs:List Value} {mx:Option Nat} (h:RdS S z u n cs) (h1:lo≤hi) (h2:hi≤n) (h3:∀ m,mx=some m→hi≤m∧m≤n):RdS S z (subV u lo hi mx z) (hi - lo) ((cs.drop (lo * z)).take ((hi - lo) * z)):=by
  have hl:=h.len
  rcases h with ⟨rfl,rfl,a,c,rfl⟩ | ⟨b,o,c,l,t,rfl,hn,hS,hc,rfl⟩
  · have e1:hi=0:=by omega
    have e2:lo=0:=by omega
    subst e1;subst e2
    exact .inl ⟨rfl,by simp,_,_,rfl⟩
  · by_cases e:mx.getD c=lo
    · have e1:hi=lo:=by
        cases mx with
        | none=>simp at e;omega
        | some m=>have:=h3 m rfl;simp at e;omega
      subst e1
      exact .inl ⟨by omega,by simp,some ⟨b,o,none⟩,mx.getD c - hi,by simp [subV,e]⟩
    · have hm:hi≤mx.getD c∧mx.getD c≤c:=by
        cases mx with
        | none=>simp;omega
        | some m=>have:=h3 m rfl;simp;omega
      refine .inr ⟨b,o+lo * z,mx.getD c - lo,l,t,by simp [subV,e,add_none],by omega,hS,?_,?_⟩
      · have:o+lo * z+(mx.getD c - lo) * z=o+(mx.getD c) * z:=by rw [Nat.add_assoc,← Nat.add_mul];congr 2;omega
        rw [this]
        have:mx.getD c * z≤c * z:=Nat.mul_le_mul_right z hm.2
        omega
      · rw [List.drop_take,List.take_take,List.drop_drop]
        have h4:(hi - lo) * z≤n * z - lo * z:=by
          rw [← Nat.sub_mul];exact Nat.mul_le_mul_right z (by omega)
        rw [Nat.min_eq_left h4]
theorem Rd.sub {A:HP} {z n lo hi:Nat} {u:Value} {cs:List Value} {mx:Option Nat} (h:Rd A z u n cs) (h1:lo≤hi) (h2:hi≤n) (h3:∀ m,mx=some m→hi≤m∧m≤n):Rd A z (subV u lo hi mx z) (hi - lo) ((cs.drop (lo * z)).take ((hi - lo) * z)):=
  fun S hS=>(h S hS).sub h1 h2 h3
theorem RL.sub {α:Type} {A:HP} {z:Nat} {enc:α→List Value} {u:Value} {xs:List α} {lo hi:Nat} {mx:Option Nat} (he:EncOk z enc) (h:RL A z enc u xs) (h1:lo≤hi) (h2:hi≤xs.length) (h3:∀ m,mx=some m→hi≤m∧m≤xs.length) :
    RL A z enc (subV u lo hi mx z) ((xs.drop lo).take (hi - lo)):=by
  have:=Rd.sub h h1 h2 h3
  rw [flat_drop he,flat_take he] at this
  unfold RL
  rw [show ((xs.drop lo).take (hi - lo)).length=hi - lo by simp;omega]
  exact this
theorem RL.from_ {α:Type} {A:HP} {z:Nat} {enc:α→List Value} {u:Value} {xs:List α} {lo:Nat} (he:EncOk z enc) (h:RL A z enc u xs) (h1:lo≤xs.length):RL A z enc (subV u lo xs.length none z) (xs.drop lo):=by
  have:=RL.sub (mx:=none) he h h1 (Nat.le_refl _) (by simp)
  rwa [List.take_of_length_le (by simp)] at this
theorem RL.to_ {α:Type} {A:HP} {z:Nat} {enc:α→List Value} {u:Value} {xs:List α} {hi:Nat} (he:EncOk z enc) (h:RL A z enc u xs) (h1:hi≤xs.length):RL A z enc (subV u 0 hi none z) (xs.take hi):=by
  have:=RL.sub (lo:=0) (mx:=none) he h (Nat.zero_le _) h1 (by simp)
  simpa using this
section
variable {P : Program} {r : Option Nat} {g : World} {Γ : Env} {L M : List HP} {A : HP} {dst : Option Tmp} {t : TypeId} {pos : String} {aft : Array Edge} {gd : Option (Nat × Bool)}
theorem run_sliceAt {T E z y n c lo hi:Nat} {a:Option Addr} {lo' hi' mx':Option Value} {mx:Option Nat} (hs:slOf P T=some (E,z,y)) (hlo:(lo'=none∧lo=0)∨∃ k,lo'=some (.int k lo)) (hhi:(hi'=none∧hi=n∧mx=none)∨∃ k,hi'=some (.int k hi))
    (hmx:(mx'=none∧mx=none)∨∃ k m,mx'=some (.int k (m:Nat))∧mx=some m) (h1:lo≤hi) (h2:hi≤mx.getD c) (h3:mx.getD c≤c) (w:World):(Instr.sliceAt T (.slice a n c) lo' hi' mx').run P w=.ok (subV (.slice a n c) lo hi mx z) w:=by
  unfold slOf at hs
  split at hs
  case h_2=>cases hs
  case h_1 hu=>
    simp only [Option.map_eq_some_iff] at hs
    obtain ⟨inf,hinf,hs⟩:=hs
    cases hs
    have hz:szOf P E=some inf.size:=by simp [szOf,hinf]
    rcases hlo with ⟨rfl,rfl⟩ | ⟨k1,rfl⟩ <;> rcases hmx with ⟨rfl,rfl⟩ | ⟨k3,m,rfl,rfl⟩ <;> rcases hhi with ⟨rfl,rfl,h4⟩ | ⟨k2,rfl⟩ <;> simp at h1 h2 h3 <;>
      first
      | (cases h4;done)
      | (simp [Instr.sliceAt,run_underlying hu,Instr.slice,Instr.sliceBounds,Instr.sliceBound,asIntOf,run_sizeOf hz,subV,h1,h2,h3];done)
      | (have h5:(lo:Int)≤hi:=by omega
         simp [Instr.sliceAt,run_underlying hu,Instr.slice,Instr.sliceBounds,Instr.sliceBound,asIntOf,run_sizeOf hz,subV,h1,h2,h3,h5];done)
theorem e_slice {T E z y n lo hi:Nat} {x:Operand} {xl xh xm:Option Operand} {u:Value} {cs:List Value} {mx:Option Nat} (hs:slOf P T=some (E,z,y)) (hx:ev Γ x=some u) (hA:Rd A z u n cs)
    (hlo:(xl=none∧lo=0)∨∃ o k,xl=some o∧ev Γ o=some (.int k lo)) (hhi:(xh=none∧hi=n∧mx=none)∨∃ o k,xh=some o∧ev Γ o=some (.int k hi)) (hmx:(xm=none∧mx=none)∨∃ o k m,xm=some o∧ev Γ o=some (.int k (m:Nat))∧mx=some m)
    (h1:lo≤hi) (h2:hi≤n) (h3:∀ m,mx=some m→hi≤m∧m≤n) (hp:Pick L A M:=by repeat first | exact .z | apply Pick.s):EO P g ⟨dst,.slice T x xl xh xm,t,pos,aft,gd⟩ Γ L (subV u lo hi mx z):=
  .of (by simp) fun ρ hρ w hw=>by
    have hr:=hw.rd hp hA
    have hex:∃ a c,u=.slice a n c∧n≤c:=by
      rcases hr with ⟨rfl,_,a,c,rfl⟩ | ⟨b,o,c,l,t,rfl,hn,_⟩
      · exact ⟨a,c,rfl,Nat.zero_le _⟩
      · exact ⟨_,c,rfl,hn⟩
    obtain ⟨a,c,rfl,hn⟩:=hex
    have hm:hi≤mx.getD c∧mx.getD c≤c:=by
      cases mx with
      | none=>simp;omega
      | some m=>have:=h3 m rfl;simp;omega
    have hx':=hρ x _ (by simp [Op.operands]) hx
    have:=run_sliceAt (P:=P) (a:=a) (c:=c) (n:=n) (lo:=lo) (hi:=hi) (lo':=xl.map ρ) (hi':=xh.map ρ) (mx':=xm.map ρ) (mx:=mx) hs
      (by rcases hlo with ⟨rfl,rfl⟩ | ⟨o,k,rfl,h⟩
          · exact .inl ⟨rfl,rfl⟩
          · exact .inr ⟨k,by simp [hρ o _ (by simp [Op.operands]) h]⟩)
      (by rcases hhi with ⟨rfl,rfl,rfl⟩ | ⟨o,k,rfl,h⟩
          · exact .inl ⟨rfl,rfl,rfl⟩
          · exact .inr ⟨k,by simp [hρ o _ (by simp [Op.operands]) h]⟩)
      (by rcases hmx with ⟨rfl,rfl⟩ | ⟨o,k,m,rfl,h,rfl⟩
          · exact .inl ⟨rfl,rfl⟩
          · exact .inr ⟨k,m,by simp [hρ o _ (by simp [Op.operands]) h],rfl⟩) h1 hm.1 hm.2 w
    simp only [execOp,hx',Sem.run_bind,this,Result.andThen_ok];rfl
section lists
variable {α : Type} {T E z y lo hi : Nat} {x xl xh xm : Operand} {enc : α → List Value} {u : Value} {xs : List α} {k k' k'' : IntKind}
theorem el_from (hs:slOf P T=some (E,z,y)) (hA:RL A z enc u xs) (h1:lo≤xs.length) (hx:ev Γ x=some u:=by rfl) (hl:ev Γ xl=some (.int k lo):=by rfl) (hp:Pick L A M:=by repeat first | exact .z | apply Pick.s) :
    EO P g ⟨dst,.slice T x (some xl) none none,t,pos,aft,gd⟩ Γ L (subV u lo xs.length none z):=e_slice hs hx hA (.inr ⟨_,_,rfl,hl⟩) (.inl ⟨rfl,rfl,rfl⟩) (.inl ⟨rfl,rfl⟩) h1 (Nat.le_refl _) (by simp) hp
theorem el_to (hs:slOf P T=some (E,z,y)) (hA:RL A z enc u xs) (h1:hi≤xs.length) (hx:ev Γ x=some u:=by rfl) (hl:ev Γ xh=some (.int k hi):=by rfl) (hp:Pick L A M:=by repeat first | exact .z | apply Pick.s) :
    EO P g ⟨dst,.slice T x none (some xh) none,t,pos,aft,gd⟩ Γ L (subV u 0 hi none z):=e_slice hs hx hA (.inl ⟨rfl,rfl⟩) (.inr ⟨_,_,rfl,hl⟩) (.inl ⟨rfl,rfl⟩) (Nat.zero_le _) h1 (by simp) hp
theorem el_fromto (hs:slOf P T=some (E,z,y)) (hA:RL A z enc u xs) (h0:lo≤hi) (h1:hi≤xs.length) (hx:ev Γ x=some u:=by rfl) (hl:ev Γ xl=some (.int k lo):=by rfl) (hh:ev Γ xh=some (.int k' hi):=by rfl) (hp:Pick L A M:=by repeat first | exact .z | apply Pick.s) :
    EO P g ⟨dst,.slice T x (some xl) (some xh) none,t,pos,aft,gd⟩ Γ L (subV u lo hi none z):=e_slice hs hx hA (.inr ⟨_,_,rfl,hl⟩) (.inr ⟨_,_,rfl,hh⟩) (.inl ⟨rfl,rfl⟩) h0 h1 (by simp) hp
theorem el_to3 (hs:slOf P T=some (E,z,y)) (hA:RL A z enc u xs) (h1:hi≤xs.length) (hx:ev Γ x=some u:=by rfl) (hl:ev Γ xh=some (.int k hi):=by rfl) (hm:ev Γ xm=some (.int k' hi):=by rfl) (hp:Pick L A M:=by repeat first | exact .z | apply Pick.s) :
    EO P g ⟨dst,.slice T x none (some xh) (some xm),t,pos,aft,gd⟩ Γ L (subV u 0 hi (some hi) z):=e_slice hs hx hA (.inl ⟨rfl,rfl⟩) (.inr ⟨_,_,rfl,hl⟩) (.inr ⟨_,_,_,rfl,hm,rfl⟩) (Nat.zero_le _) h1 (by rintro m ⟨⟩;omega) hp
theorem el_fromto3 (hs:slOf P T=some (E,z,y)) (hA:RL A z enc u xs) (h0:lo≤hi) (h1:hi≤xs.length) (hx:ev Γ x=some u:=by rfl) (hl:ev Γ xl=some (.int k lo):=by rfl) (hh:ev Γ xh=some (.int k' hi):=by rfl) (hm:ev Γ xm=some (.int k'' hi):=by rfl) (hp:Pick L A M:=by repeat first | exact .z | apply Pick.s) :
    EO P g ⟨dst,.slice T x (some xl) (some xh) (some xm),t,pos,aft,gd⟩ Γ L (subV u lo hi (some hi) z):=e_slice hs hx hA (.inr ⟨_,_,rfl,hl⟩) (.inr ⟨_,_,rfl,hh⟩) (.inr ⟨_,_,_,rfl,hm,rfl⟩) h0 h1 (by rintro m ⟨⟩;omega) hp
end lists
theorem splice_eq:∀ (vs l:List Value) (o:Nat),o+vs.length≤l.length→splice l o vs=l.take o++vs++l.drop (o+vs.length)
  | [],l,o,_=>by simp [splice]
  | v::vs,l,o,h=>by
    simp only [List.length_cons] at h
    simp only [splice]
    have hlt:o < l.length:=by omega
    rw [splice_eq vs _ _ (by simp;omega),List.drop_set_of_lt (by omega)]
    have e1:(l.set o v).take (o+1)=l.take o++[v]:=by
      rw [List.set_eq_take_append_cons_drop,if_pos hlt,List.take_append]
      simp only [List.length_take,Nat.min_eq_left (Nat.le_of_lt hlt)]
      rw [List.take_of_length_le (by simp;omega),show o+1 - o=1 by omega];rfl
    rw [e1]
    simp only [List.append_assoc,List.cons_append,List.nil_append,List.length_cons]
    rw [show o+1+vs.length=o+(vs.length+1) by omega]
theorem splice_get (l vs:List Value) (o:Nat) (h:o+vs.length≤l.length) (i:Nat):(splice l o vs)[i]?=if i < o then l[i]? else if i < o+vs.length then vs[i - o]? else l[i]?:=by
  rw [splice_eq vs l o h,List.append_assoc]
  by_cases h1:i < o
  · rw [if_pos h1,List.getElem?_append_left (by simp;omega),List.getElem?_take_of_lt h1]
  · rw [if_neg h1,List.getElem?_append_right (by simp;omega)]
    simp only [List.length_take,Nat.min_eq_left (show o≤l.length by omega)]
    by_cases h2:i < o+vs.length
    · rw [if_pos h2,List.getElem?_append_left (by omega)]
    · rw [if_neg h2,List.getElem?_append_right (by omega),List.getElem?_drop]
      congr 1;omega
theorem splice_len (l vs:List Value) (o:Nat) (h:o+vs.length≤l.length):(splice l o vs).length=l.length:=by
  rw [splice_eq vs l o h];simp;omega
theorem td_get (l:List Value) (o m i:Nat):((l.drop o).take m)[i]?=if i < m then l[o+i]? else none:=by
  rw [List.getElem?_take,List.getElem?_drop]
theorem own_store {E z n k:Nat} {u:Value} {cs zs:List Value} {w:World} {N:List HP} (hw:Sat g L w) (hp:Put L (Own E z u n cs) (Own E z u n (splice cs k zs)) N) (hk:k+zs.length≤n * z) (h0:0 < zs.length) (h1:ones zs=true) :
    ∃ a w',elA u k=.pointer (some a)∧(storeCells a zs).run P w=.ok () w'∧Sat g N w':=by
  obtain ⟨R,p1,p2⟩:=hp.picks
  obtain ⟨S1,S2,hd,l1,l2,hA,hR⟩:=p1.to hw.heap
  rcases hA with ⟨rfl,_⟩ | ⟨b,o,c,l,rfl,hn,hc,hS,hl,rfl⟩
  · rw [Nat.zero_mul] at hk;omega
  · have hnc:n * z≤c * z:=Nat.mul_le_mul_right z hn
    obtain ⟨w',hr,a1,a2,a3,a4,a5,a6⟩:=run_storeCells (P:=P) (T:=E) zs 0 (o+k) l w (l1 _ _ hS) (by rw [Nat.add_zero];omega) (ones_ok h1)
    rw [Nat.add_zero] at a5
    refine ⟨⟨b,o+k,none⟩,w',by simp [elA,add_none],hr,?_⟩
    refine ⟨a1.trans hw.os,a2.trans hw.tape,a3.trans hw.output,a4 ▸ hw.size,p2.back ?_⟩
    have hS2:S2 b=none:=by
      rcases hd b with h0 | h0
      · rw [hS] at h0;cases h0
      · exact h0
    refine ⟨fun i=>if i=b then some (.cells (splice l (o+k) zs).toArray E (0,0)) else none,S2,fun i=>?_,fun i x hx=>?_,fun i x hx=>?_,.inr ⟨b,o,c,splice l (o+k) zs,rfl,hn,hc,by simp,?_,?_⟩,hR⟩
    · by_cases hi:i=b
      · subst hi;exact .inr hS2
      · left;simp [hi]
    · by_cases hi:i=b
      · subst hi;simp at hx;subst hx;exact a5
      · simp [hi] at hx
    · have hi:i≠b:=fun e=>by subst e;rw [hS2] at hx;cases hx
      show w'.heap[i]?=some x
      rw [a6 i hi];exact l2 i x hx
    · rw [splice_len _ _ _ (by omega)];exact hl
    · have hlen:((l.drop o).take (n * z)).length=n * z:=by simp;omega
      apply List.ext_getElem?
      intro i
      rw [splice_get _ _ _ (by rw [hlen];exact hk),td_get,td_get,splice_get _ _ _ (by omega)]
      by_cases hi:i < n * z
      · simp only [if_pos hi]
        by_cases h2:i < k
        · rw [if_pos h2,if_pos (show o+i < o+k by omega)]
        · rw [if_neg h2,if_neg (show ¬ o+i < o+k by omega)]
          by_cases h3:i < k+zs.length
          · rw [if_pos h3,if_pos (show o+i < o+k+zs.length by omega)];congr 1;omega
          · rw [if_neg h3,if_neg (show ¬ o+i < o+k+zs.length by omega)]
      · rw [if_neg (show ¬ i < k by omega),if_neg (show ¬ i < k+zs.length by omega),if_neg hi,if_neg hi]
theorem h_store_own {T E k z n m:Nat} {x v:Operand} {u a:Value} {cs zs:List Value} {N:List HP} {K:Value→List HP→Prop} (hT:szOf P T=some m) (hx:ev Γ x=some (elA u k)) (hv:ev Γ v=some a) (hz:a.cells=zs.toArray) (hm:zs.length=m) (h0:0 < m) (h1:ones zs=true)
    (hk:k+m≤n * z) (hp:Put L (Own E z u n cs) (Own E z u n (splice cs k zs)) N) (hK:K (.tuple #[]) N):HO P r g ⟨dst,.store T x v,t,pos,aft,gd⟩ Γ L K:=
  HO.run_skip (by simp) fun a' w ha hw=>by
    obtain ⟨p,w',e,hr,hw'⟩:=own_store (P:=P) hw hp (by omega) (by omega) h1
    refine ⟨N,w',?_,hK,hw'⟩
    simp [execOp,ev_ok hx ha,ev_ok hv ha,e,Instr.storeAt,Instr.sureAddr,storeVar,run_sizeOf hT,hz,hm,hr]
theorem flat_set {α:Type} {z:Nat} {enc:α→List Value} (he:EncOk z enc):∀ (xs:List α) (j:Nat) (a:α),j < xs.length→splice (xs.flatMap enc) (j * z) (enc a)=(xs.set j a).flatMap enc:=fun xs j a hj=>by
  have hle:(j+1) * z≤xs.length * z:=Nat.mul_le_mul_right z hj
  have e1:(j+1) * z=j * z+z:=by rw [Nat.add_mul];omega
  rw [splice_eq _ _ _ (by rw [flat_len he,he.len];omega),he.len,← e1,flat_take he,flat_drop he,List.set_eq_take_append_cons_drop]
  simp [hj]
theorem hl_store {α:Type} {T E z j:Nat} {x v:Operand} {u b:Value} {xs:List α} {enc:α→List Value} {N:List HP} {K:Value→List HP→Prop} (a:α) (hT:szOf P T=some z) (he:EncOk z enc) (hj:j < xs.length) (hK:K (.tuple #[]) N) (hz:0 < z:=by decide) (hx:ev Γ x=some (elA u (j * z)):=by rfl) (hv:ev Γ v=some b:=by rfl) (hb:b.cells=(enc a).toArray:=by rfl)
    (hp:Put L (Sl E z enc u xs) (Sl E z enc u (xs.set j a)) N:=by repeat first | exact .z | apply Put.s):HO P r g ⟨dst,.store T x v,t,pos,aft,gd⟩ Γ L K:=by
  have hle:(j+1) * z≤xs.length * z:=Nat.mul_le_mul_right z hj
  have e1:(j+1) * z=j * z+z:=by rw [Nat.add_mul];omega
  refine h_store_own (E:=E) (cs:=xs.flatMap enc) hT hx hv hb (he.len a) hz (he.one a) (n:=xs.length) (z:=z) (by omega) ?_ hK
  rw [flat_set he xs j a hj]
  have:Sl E z enc u (xs.set j a)=Own E z u xs.length ((xs.set j a).flatMap enc):=by unfold Sl;rw [List.length_set]
  rw [← this];exact hp
end
end Go.SL
namespace Go.SL
open Go
section
variable {P : Program} {r : Option Nat} {g : World} {Γ : Env} {L M : List HP} {A : HP} {dst : Option Tmp} {t : TypeId} {pos : String} {aft : Array Edge} {gd : Option (Nat × Bool)}
theorem RdS.read {S:World} {z n:Nat} {u:Value} {cs:List Value} (h:RdS (heapOf S) z u n cs):(Builtin.lenOf u).run P S=.ok n S∧(Builtin.firstCells z n u).run P S=.ok cs.toArray S:=by
  rcases h with ⟨rfl,rfl,a,c,rfl⟩ | ⟨b,o,c,l,t,rfl,hn,hS,hc,rfl⟩
  · refine ⟨rfl,?_⟩
    cases a with
    | none=>rfl
    | some a=>simp [Builtin.firstCells,loadCells,loadCellsFrom]
  · have:n * z≤c * z:=Nat.mul_le_mul_right z hn
    exact ⟨rfl,by simp only [Builtin.firstCells];exact run_loadCells ⟨t,hS⟩ (by omega)⟩
theorem growBy_le (need:Nat):∀ (k c:Nat),c < need→Builtin.growBy need k c≤need+(need+768) / 4
  | 0,c,h=>by simp only [Builtin.growBy];omega
  | k+1,c,h=>by
    simp only [Builtin.growBy]
    split
    · omega
    · rcases Nat.lt_or_ge (c+(c+768) / 4) need with h' | h'
      · exact growBy_le need k _ h'
      · cases k with
        | zero=>simp only [Builtin.growBy];omega
        | succ k=>simp only [Builtin.growBy];rw [if_pos h'];omega
theorem nextcap_le {need old:Nat} (h:old < need):Builtin.nextslicecap need old≤2 * need+192:=by
  unfold Builtin.nextslicecap
  split
  · omega
  · split
    · omega
    · have:=growBy_le need 4 old h;omega
theorem mod_arr_len (zero:Array Value) (n:Nat):((Builtin.zeroCells zero n)).size=n * zero.size:=by simp [Builtin.zeroCells]
theorem run_append {T T2 E z y n k:Nat} {u v:Value} {cs ds:List Value} {zs:List Value} {R:List HP} {w:World} (hs:slOf P T=some (E,z,y)) (h2:∃ d,P.underlying T2=some d∧∀ q,d≠.int q) (hz:zeroOf P E=some zs) (hzz:zs.length=z)
    (hw:Sat g L w) (p1:Pick L (Own E z u n cs) R) (hlen:(Builtin.lenOf v).run P w=.ok k w) (hdsd:∀ d,(Builtin.firstCells z k v).run P { w with drawn:=d }=.ok ds.toArray { w with drawn:=d }) (hdl:ds.length=k * z) (h1:ones ds=true) (hz0:0 < z) (hb:n+k≤68719476736) (hy:y≤512) :
    ∃ u' w',(Builtin.append_ #[T,T2] t #[u,v]).run P w=.ok u' w'∧Sat g (Own E z u' (n+k) (cs++ds)::R) w':=by
  have hds:(Builtin.firstCells z k v).run P w=.ok ds.toArray w:=hdsd w.drawn
  unfold slOf at hs
  split at hs
  case h_2=>cases hs
  case h_1 hu=>
  simp only [Option.map_eq_some_iff] at hs
  obtain ⟨inf,hinf,hs⟩:=hs
  cases hs
  have hsz:szOf P E=some inf.size:=by simp [szOf,hinf]
  obtain ⟨d2,hd2,hni⟩:=h2
  have hown:=hw.rd p1 own_rd
  have hshape:∃ a c,u=.slice a n c∧n≤c∧(Builtin.firstCells inf.size n u).run P w=.ok cs.toArray w:=by
    have hr:=(hown.read (P:=P)).2
    rcases hown with ⟨rfl,_,a,c,rfl⟩ | ⟨b,o,c,l,t,rfl,hn,_⟩
    · exact ⟨a,c,rfl,Nat.zero_le _,hr⟩
    · exact ⟨_,c,rfl,hn,hr⟩
  obtain ⟨S1,S2,hd,l1,l2,hOw,hR⟩:=p1.to hw.heap
  by_cases hfit:∃ b o c l,u=.slice (some ⟨b,o,none⟩) n c∧n+k≤c∧c < 9223372036854775808∧S1 b=some (.cells (List.toArray l) E (0,0))∧o+c * inf.size≤l.length∧cs=(l.drop o).take (n * inf.size)
  · 
    obtain ⟨b,o,c,l,rfl,hnk,hc,hS,hl,rfl⟩:=hfit
    have hm1:(n+k) * inf.size≤c * inf.size:=Nat.mul_le_mul_right _ hnk
    rw [Nat.add_mul] at hm1
    obtain ⟨w',hr,a1,a2,a3,a4,a5,a6⟩:=run_storeCells (P:=P) (T:=E) ds 0 (o+n * inf.size) l w (l1 _ _ hS) (by rw [Nat.add_zero];omega) (ones_ok h1)
    rw [Nat.add_zero] at a5
    refine ⟨.slice (some ⟨b,o,none⟩) (n+k) c,w',?_,?_⟩
    · simp only [Builtin.append_,List.getElem?_toArray,List.getElem?_cons_zero,List.getElem?_cons_succ,Sem.run_bind,run_underlying hu,Result.andThen_ok,run_sizeOf hsz,run_underlying hd2]
      simp [hlen,hnk,hds,add_none,hr]
    · refine ⟨a1.trans hw.os,a2.trans hw.tape,a3.trans hw.output,a4 ▸ hw.size,?_⟩
      have hS2:S2 b=none:=by
        rcases hd b with h0 | h0
        · rw [hS] at h0;cases h0
        · exact h0
      refine ⟨fun i=>if i=b then some (.cells (splice l (o+n * inf.size) ds).toArray E (0,0)) else none,S2,fun i=>?_,fun i x hx=>?_,fun i x hx=>?_,.inr ⟨b,o,c,splice l (o+n * inf.size) ds,rfl,hnk,hc,by simp,?_,?_⟩,hR⟩
      · by_cases hi:i=b
        · subst hi;exact .inr hS2
        · left;simp [hi]
      · by_cases hi:i=b
        · subst hi;simp at hx;subst hx;exact a5
        · simp [hi] at hx
      · have hi:i≠b:=fun e=>by subst e;rw [hS2] at hx;cases hx
        show w'.heap[i]?=some x
        rw [a6 i hi];exact l2 i x hx
      · rw [splice_len _ _ _ (by omega)];exact hl
      · apply List.ext_getElem?
        intro i
        rw [td_get,splice_get _ _ _ (by omega),List.getElem?_append]
        simp only [List.length_take,List.length_drop]
        rw [Nat.min_eq_left (show n * inf.size≤l.length - o by omega),Nat.add_mul]
        by_cases hi:i < n * inf.size
        · rw [if_pos hi,if_pos (show i < n * inf.size+k * inf.size by omega),if_pos (show o+i < o+n * inf.size by omega),td_get,if_pos hi]
        · rw [if_neg hi,if_neg (show ¬ o+i < o+n * inf.size by omega)]
          by_cases h2:i < n * inf.size+k * inf.size
          · rw [if_pos h2,if_pos (show o+i < o+n * inf.size+ds.length by omega)];congr 1;omega
          · rw [if_neg h2,List.getElem?_eq_none (by omega)]
  · obtain ⟨a,c,rfl,hnc,hcs⟩:=hshape
    by_cases hk:n+k≤c
    · 
      have h0:n=0∧k=0∧cs=[]∧c=0:=by
        rcases hOw with ⟨rfl,rfl,a',e⟩ | ⟨b,o,c',l,e,h3,h4,h5,h6,h7⟩
        · cases e;exact ⟨rfl,by omega,rfl,rfl⟩
        · cases e;exact absurd ⟨b,o,c,l,rfl,hk,h4,h5,h6,h7⟩ hfit
      obtain ⟨rfl,rfl,rfl,rfl⟩:=h0
      have hd0:ds=[]:=by cases ds with
        | nil=>rfl
        | cons x l=>simp at hdl
      subst hd0
      refine ⟨.slice a 0 0,w,?_,hw.conv fun S hS=>p1.to hS⟩
      simp only [Builtin.append_,List.getElem?_toArray,List.getElem?_cons_zero,List.getElem?_cons_succ,Sem.run_bind,run_underlying hu,Result.andThen_ok,run_sizeOf hsz,run_underlying hd2]
      cases a <;> simp [hlen,hds,storeCells]
    · 
      have hkc:c < n+k:=by omega
      have hnext:=nextcap_le hkc
      unfold zeroOf at hz
      cases hzi:(P.info? E).bind (·.zero) with
      | none=>rw [hzi] at hz;cases hz
      | some zv=>
      rw [hzi] at hz
      simp at hz
      have hz':zv.cells=zs.toArray:=by rw [← hz]
      have hmul:Builtin.nextslicecap (n+k) c * inf.bytes≤(2 * (n+k)+192) * 512:=Nat.mul_le_mul hnext hy
      let q:Question:=.appendCap (n+k) c E
      let nc:=q.cut (w.tape w.drawn q)
      have hnc2:nc=n+k+(w.tape w.drawn q) % (2 ^ 63 - (n+k)):=rfl
      have hlt:(w.tape w.drawn q) % (2 ^ 63 - (n+k)) < 2 ^ 63 - (n+k):=Nat.mod_lt _ (by omega)
      let row:=(cs++ds++(Builtin.zeroCells zs.toArray (nc - (n+k))).toList)
      have hcl:cs.length=n * inf.size:=hown.len
      refine ⟨.slice (some ⟨w.heap.size,0,none⟩) (n+k) nc,w.drew.alloc (.cells row.toArray E (0,0)),?_,?_⟩
      · simp only [Builtin.append_,List.getElem?_toArray,List.getElem?_cons_zero,List.getElem?_cons_succ,Sem.run_bind,run_underlying hu,Result.andThen_ok,run_sizeOf hsz,run_underlying hd2]
        have e1:¬ (9223372036854775807 < (n:Int)+k∧inf.bytes=0):=by omega
        have e2:¬ 2 ^ 48 < Builtin.nextslicecap (n+k) c * inf.bytes:=by omega
        have hcs':(Builtin.firstCells inf.size n (.slice a n c)).run P w.drew=.ok cs.toArray w.drew:=by
          have:RdS (heapOf w.drew) inf.size (.slice a n c) n cs:=hown
          exact (this.read (P:=P)).2
        have hds':(Builtin.firstCells inf.size k v).run P w.drew=.ok ds.toArray w.drew:=hdsd (w.drawn+1)
        have e3:¬ n+k≤c:=hk
        simp [hlen,e3,e1,e2,run_typeInfo hinf,Question.forced,hcs',hds',run_zeroValue hzi,newRow,hz',row,nc,q]
        congr 2;apply Array.ext';simp
      · have h:=(hw.draw (w.drawn+1)).conv fun S hS=>p1.to hS
        have h':=h.push (.cells row.toArray E (0,0))
        obtain ⟨T1,T2,hd',m1,m2,hA1,hA2⟩:=h'.heap
        refine ⟨h'.os,h'.tape,h'.output,h'.size,T1,T2,hd',m1,m2,.inr ⟨w.heap.size,0,nc,row,rfl,by omega,by omega,hA1,?_,?_⟩,stars_tail hA2⟩
        · simp only [row,List.length_append,Array.length_toList,mod_arr_len,List.size_toArray,hcl,hdl,hzz]
          rw [Nat.zero_add,← Nat.add_mul,← Nat.add_mul]
          exact Nat.mul_le_mul_right _ (by omega)
        · rw [List.drop_zero]
          simp only [row]
          rw [List.take_append_of_le_length (by simp [hcl,hdl,Nat.add_mul]),List.take_of_length_le (by simp [hcl,hdl,Nat.add_mul])]
theorem notInt_sl {T E z y:Nat} (h:slOf P T=some (E,z,y)):∃ d,P.underlying T=some d∧∀ q,d≠.int q:=by
  unfold slOf at h
  split at h
  case h_2=>cases h
  case h_1 e hu=>exact ⟨_,hu,by simp⟩
theorem h_append0 {T T2 E z y n k:Nat} {x xv:Operand} {u v:Value} {cs ds zs:List Value} {R:List HP} {K:Value→List HP→Prop} (hs:slOf P T=some (E,z,y)) (h2:∃ d,P.underlying T2=some d∧∀ q,d≠.int q) (hz:zeroOf P E=some zs) (hzz:zs.length=z)
    (hx:ev Γ x=some u) (hv:ev Γ xv=some v) (p1:Pick L (Own E z u n cs) R) (hr:∀ w,Sat g L w→(Builtin.lenOf v).run P w=.ok k w∧(Builtin.firstCells z k v).run P w=.ok ds.toArray w)
    (hdl:ds.length=k * z) (h1:ones ds=true) (hz0:0 < z) (hb:n+k≤68719476736) (hy:y≤512) (hK:∀ u',K u' (Own E z u' (n+k) (cs++ds)::R)):HO P r g ⟨dst,.call ⟨.builtin .append,#[x,xv],#[T,T2]⟩,t,pos,aft,gd⟩ Γ L K:=
  HO.run (by simp) fun a w ha hw=>by
    obtain ⟨u',w',hrun,hw'⟩:=run_append (t:=t) hs h2 hz hzz hw p1 (hr w hw).1 (fun d=>(hr _ (hw.draw d)).2) hdl h1 hz0 hb hy
    refine ⟨u',_,w',?_,hK u',hw'⟩
    have hm:(#[x,xv]:Array Operand).map a.eval=#[u,v]:=by simp [ev_ok hx ha,ev_ok hv ha]
    show (do let d ← resolve a.eval ⟨.builtin .append,#[x,xv],#[T,T2]⟩ t;invoke d.target d.args:Sem Next).run P w=_
    simp only [resolve,hm,Sem.run_bind,Sem.run_pure,Result.andThen_ok,invoke,builtin,hrun]
theorem own_shape {E z n:Nat} {u:Value} {cs:List Value} {S:Piece} (h:Own E z u n cs S):∃ a m c,u=.slice a m c:=by
  rcases h with ⟨rfl,_,a,rfl⟩ | ⟨b,o,c,l,rfl,_⟩ <;> exact ⟨_,_,_,rfl⟩
theorem HO.sat {o:Oper} {K0 K:Value→List HP→Prop} (h:HO P r g o Γ L K0) (hk:∀ v M w,K0 v M→Sat g M w→K v M):HO P r g o Γ L K:=
  fun a w Q next ha hw hn=>h a w Q next ha hw fun v M w' hk0 hw'=>hn v M w' (hk v M w' hk0 hw') hw'
theorem HO.shape {o:Oper} {K:Value→List HP→Prop} {E z n:Nat} {cs:List Value} {R:List HP} (h:∀ K0:Value→List HP→Prop,(∀ u,K0 u (Own E z u n cs::R))→HO P r g o Γ L K0) (hK:∀ a m c,K (.slice a m c) (Own E z (.slice a m c) n cs::R)):HO P r g o Γ L K:=
  HO.sat (h (fun v M=>M=Own E z v n cs::R) fun _=>rfl) fun v M w hM hw=>by
    subst hM
    obtain ⟨S1,S2,_,_,_,h1,_⟩:=hw.heap
    obtain ⟨a,m,c,rfl⟩:=own_shape h1
    exact hK a m c
theorem h_append {T T2 E z y n k:Nat} {x xv:Operand} {u v:Value} {cs ds zs:List Value} {R:List HP} {K:Value→List HP→Prop} (hs:slOf P T=some (E,z,y)) (h2:∃ d,P.underlying T2=some d∧∀ q,d≠.int q) (hz:zeroOf P E=some zs) (hzz:zs.length=z)
    (hx:ev Γ x=some u) (hv:ev Γ xv=some v) (p1:Pick L (Own E z u n cs) R) (hr:∀ w,Sat g L w→(Builtin.lenOf v).run P w=.ok k w∧(Builtin.firstCells z k v).run P w=.ok ds.toArray w)
    (hdl:ds.length=k * z) (h1:ones ds=true) (hz0:0 < z) (hb:n+k≤68719476736) (hy:y≤512) (hK:∀ a m c,K (.slice a m c) (Own E z (.slice a m c) (n+k) (cs++ds)::R)):HO P r g ⟨dst,.call ⟨.builtin .append,#[x,xv],#[T,T2]⟩,t,pos,aft,gd⟩ Γ L K:=
  HO.shape (fun _ h0=>h_append0 hs h2 hz hzz hx hv p1 hr hdl h1 hz0 hb hy h0) hK
section lists
variable {α : Type} {T E z y : Nat} {x xv : Operand} {enc : α → List Value} {u v : Value} {xs ys : List α} {zs : List Value} {R : List HP} {K : Value → List HP → Prop}
theorem ones_append:∀ {l m:List Value},ones l=true→ones m=true→ones (l++m)=true
  | [],_,_,h=>h
  | v::l,m,h,h'=>by
    simp only [ones,Bool.and_eq_true,List.cons_append] at h ⊢
    exact ⟨h.1,ones_append h.2 h'⟩
theorem ones_flat (he:EncOk z enc):∀ (l:List α),ones (l.flatMap enc)=true
  | []=>rfl
  | a::l=>by rw [List.flatMap_cons];exact ones_append (he.one a) (ones_flat he l)
theorem hl_append {B:HP} {N:List HP} (hs:slOf P T=some (E,z,y)) (he:EncOk z enc) (hz:zeroOf P E=some zs) (hB:RL B z enc v ys) (hb:xs.length+ys.length≤68719476736) (hK:∀ a m c,K (.slice a m c) (Sl E z enc (.slice a m c) (xs++ys)::R)) (hzz:zs.length=z:=by rfl) (hz0:0 < z:=by decide) (hy:y≤512:=by decide)
    (hx:ev Γ x=some u:=by rfl) (hv:ev Γ xv=some v:=by rfl) (p1:Pick L (Sl E z enc u xs) R:=by repeat first | exact .z | apply Pick.s) (p2:Pick L B N:=by repeat first | exact .z | apply Pick.s):HO P r g ⟨dst,.call ⟨.builtin .append,#[x,xv],#[T,T]⟩,t,pos,aft,gd⟩ Γ L K:=by
  refine h_append (ds:=ys.flatMap enc) hs (notInt_sl hs) hz hzz hx hv p1 (fun w hw=>(hw.rd p2 hB).read) (flat_len he ys) (ones_flat he ys) hz0 hb hy fun a m c=>?_
  have:=hK a m c
  unfold Sl at this
  rwa [List.length_append,List.flatMap_append] at this
end lists
theorem rep_get (zs:List Value) {z:Nat} (h:zs.length=z) (h0:0 < z):∀ (n i:Nat),i < n * z→((List.replicate n zs).flatten)[i]?=zs[i % z]?
  | 0,i,hi=>by simp at hi
  | n+1,i,hi=>by
    rw [List.replicate_succ,List.flatten_cons]
    by_cases h1:i < z
    · rw [List.getElem?_append_left (by omega),Nat.mod_eq_of_lt h1]
    · rw [List.getElem?_append_right (by omega),h,rep_get zs h h0 n (i - z) (by rw [Nat.add_mul] at hi;omega),← Nat.mod_eq_sub_mod (by omega)]
theorem zeroCells_eq {zs:List Value} {n:Nat}:(Builtin.zeroCells zs.toArray n).toList=(List.replicate n zs).flatten:=by
  rcases Nat.eq_zero_or_pos zs.length with h | h
  · have:zs=[]:=by simpa using h
    subst this;simp [Builtin.zeroCells]
  · apply List.ext_getElem?
    intro i
    simp only [Builtin.zeroCells,List.size_toArray,Array.toList_map,List.getElem?_map,Array.toList_range]
    by_cases hi:i < n * zs.length
    · rw [List.getElem?_range hi,rep_get zs rfl h n i hi]
      simp [Nat.mod_lt _ h]
    · rw [List.getElem?_eq_none (by simp;omega),List.getElem?_eq_none (by simp;omega)];rfl
theorem h_make0 {T E z y n c:Nat} {xl xc:Operand} {k k':IntKind} {zs:List Value} {K:Value→List HP→Prop} (hs:slOf P T=some (E,z,y)) (hz:zeroOf P E=some zs) (hzz:zs.length=z) (hl:ev Γ xl=some (.int k n)) (hc:ev Γ xc=some (.int k' c)) (hn:n≤c) (hb:c≤68719476736) (hy:y≤512)
    (hK:∀ u,K u (Own E z u n (List.replicate n zs).flatten::L)):HO P r g ⟨dst,.makeSlice T xl xc,t,pos,aft,gd⟩ Γ L K:=
  HO.run (by simp) fun a w ha hw=>by
    unfold slOf at hs
    split at hs
    case h_2=>cases hs
    case h_1 hu=>
    simp only [Option.map_eq_some_iff] at hs
    obtain ⟨inf,hinf,hs⟩:=hs
    cases hs
    have hsz:szOf P E=some inf.size:=by simp [szOf,hinf]
    unfold zeroOf at hz
    cases hzi:(P.info? E).bind (·.zero) with
    | none=>rw [hzi] at hz;cases hz
    | some zv=>
    rw [hzi] at hz
    simp at hz
    have hz':zv.cells=zs.toArray:=by rw [← hz]
    have hmul:inf.bytes * c≤512 * 68719476736:=Nat.mul_le_mul hy hb
    have w1:IntKind.i64.wrap (n:Int)=n:=IntWalk.i64_in _ (by omega)
    have w2:IntKind.i64.wrap (c:Int)=c:=IntWalk.i64_in _ (by omega)
    let row:Array Value:=(Array.range (c * inf.size)).map (zs.toArray[· % zs.toArray.size]!)
    refine ⟨.slice (some ⟨w.heap.size,0,none⟩) n c,_,w.alloc (.cells row E (0,0)),?_,hK _,?_⟩
    · have e1:¬ ((281474976710656:Int) < (inf.bytes:Int) * c):=by
        have h5:((inf.bytes * c:Nat):Int)≤35184372088832:=by omega
        rw [Int.natCast_mul] at h5;omega
      simp only [execOp,Instr.makeSlice,Sem.run_bind,run_underlying hu,ev_ok hl ha,ev_ok hc ha,asInt,asIntOf,Sem.run_pure,Result.andThen_ok,run_typeInfo hinf,w1,w2]
      by_cases h0:c * inf.size=0
      · have h0':row=#[]:=by simp only [row,h0];simp
        simp [e1,h0,h0',newRow,run_sizeOf hsz,show ¬ (n:Int) < 0 by omega,show ¬ (c:Int) < 0 by omega,show ¬ (c:Int) < n by omega]
        congr 2;simp
      · simp [e1,h0,row,newRow,run_sizeOf hsz,hz',run_zeroValue hzi,show ¬ (n:Int) < 0 by omega,show ¬ (c:Int) < 0 by omega,show ¬ (c:Int) < n by omega]
    · have h':=hw.push (.cells row E (0,0))
      obtain ⟨T1,T2,hd',m1,m2,hA1,hA2⟩:=h'.heap
      have hrow:row.size=c * inf.size:=by simp [row]
      refine ⟨h'.os,h'.tape,h'.output,h'.size,T1,T2,hd',m1,m2,.inr ⟨w.heap.size,0,c,row.toList,rfl,hn,by omega,by rw [hA1],by simp [hrow],?_⟩,hA2⟩
      rw [List.drop_zero]
      have hnc:n * inf.size≤c * inf.size:=Nat.mul_le_mul_right _ hn
      apply List.ext_getElem?
      intro i
      rw [List.getElem?_take]
      by_cases hi:i < n * inf.size
      · rw [if_pos hi]
        have hz0:0 < inf.size:=by
          rcases Nat.eq_zero_or_pos inf.size with h | h
          · rw [h,Nat.mul_zero] at hi;omega
          · exact h
        have hmod:i % inf.size < zs.length:=by rw [hzz];exact Nat.mod_lt _ hz0
        have e1:row.toList[i]?=zs[i % inf.size]?:=by
          simp only [row,Array.toList_map,List.getElem?_map,List.size_toArray,hzz]
          rw [show (Array.range (c * inf.size)).toList=List.range (c * inf.size) by simp,List.getElem?_range (by omega)]
          simp [hmod]
        rw [e1]
        exact (rep_get zs hzz hz0 n i hi)
      · rw [if_neg hi,List.getElem?_eq_none (by simp [hzz];omega)]
theorem h_make {T E z y n c:Nat} {xl xc:Operand} {k k':IntKind} {zs:List Value} {K:Value→List HP→Prop} (hs:slOf P T=some (E,z,y)) (hz:zeroOf P E=some zs) (hzz:zs.length=z) (hl:ev Γ xl=some (.int k n)) (hc:ev Γ xc=some (.int k' c)) (hn:n≤c) (hb:c≤68719476736) (hy:y≤512)
    (hK:∀ a m c',K (.slice a m c') (Own E z (.slice a m c') n (List.replicate n zs).flatten::L)):HO P r g ⟨dst,.makeSlice T xl xc,t,pos,aft,gd⟩ Γ L K:=
  HO.shape (fun _ h0=>h_make0 hs hz hzz hl hc hn hb hy h0) hK
theorem h_bs {T E z y m:Nat} {ps:List (Nat × Operand)} {zs cs:List Value} {vs:List (Nat × Value)} {K:Value→List HP→Prop} (hs:slOf P T=some (E,z,y)) (hz:zeroOf P E=some zs) (_:Tm Γ cs) (hK:∀ b,K (.slice (some ⟨b,0,none⟩) m m) (cl b E cs::L))
    (hm:Nat.ble (m * z) 10000=true:=by rfl) (hv:evps Γ ps=some vs:=by rfl) (hc:Instr.fill (fun i=>some (i * z,z)) (List.replicate m zs).flatten.toArray vs=some cs.toArray:=by rfl) (hzz:zs.length=z:=by rfl) (hm0:Nat.beq (m * z) 0=false:=by rfl) :
    HO P r g ⟨dst,.buildSlice T m ps.toArray,t,pos,aft,gd⟩ Γ L K:=
  HO.run (by simp) fun a w ha hw=>by
    have hc:Instr.fill (fun i=>some (i * z,z)) ((Array.range (m * z)).map (zs.toArray[· % zs.toArray.size]!)) vs=some cs.toArray:=by
      rw [← hc];subst hzz;congr 1;apply Array.ext';rw [List.toList_toArray,← zeroCells_eq];simp [Builtin.zeroCells]
    unfold slOf at hs
    split at hs
    case h_2=>cases hs
    case h_1 hu=>
    simp only [Option.map_eq_some_iff] at hs
    obtain ⟨inf,hinf,hs⟩:=hs
    cases hs
    have hsz:szOf P E=some inf.size:=by simp [szOf,hinf]
    have h1:(ps.toArray.map fun (i,x)=>(i,a.eval x))=vs.toArray:=by
      rw [← evps_map hv (fun x u _ hx=>ev_ok hx ha)];simp
    unfold zeroOf at hz
    cases hzi:(P.info? E).bind (·.zero) with
    | none=>rw [hzi] at hz;cases hz
    | some zv=>
    rw [hzi] at hz
    simp at hz
    have hz':zv.cells=zs.toArray:=by rw [← hz]
    have hle:m * inf.size≤10000:=by simpa using hm
    have h0:m * inf.size≠0:=fun e=>by rw [e] at hm0;simp at hm0
    refine ⟨_,_,w.alloc (.cells cs.toArray E (0,0)),?_,hK w.heap.size,hw.push (.cells cs.toArray E (0,0))⟩
    simp only [execOp,Instr.buildSlice,Sem.run_bind,run_underlying hu,Result.andThen_ok,run_sizeOf hsz,h1]
    rw [if_neg (by omega)]
    simp only [h0,if_false,Sem.run_bind,run_zeroValue hzi,Result.andThen_ok,hz',Sem.run_pure,hc]
    simp [newRow]
theorem lit_rl {α:Type} {z b:Nat} {E:TypeId} {enc:α→List Value} (he:EncOk z enc) {l:List Value} (xs:List α) {n:Nat} (h:xs.flatMap enc=l) (hn:xs.length=n:=by rfl):RL (cl b E l) z enc (.slice (some ⟨b,0,none⟩) n n) xs:=by
  subst hn
  refine cl_rd (Nat.le_refl _) ?_ ?_
  · rw [← h,flat_len he,Nat.zero_add];exact Nat.le_refl _
  · rw [← h,List.drop_zero,List.take_of_length_le (by rw [flat_len he];exact Nat.le_refl _)]
end
end Go.SL

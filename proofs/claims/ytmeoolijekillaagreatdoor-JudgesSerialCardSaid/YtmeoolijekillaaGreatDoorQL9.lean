import Derived.Test.YtmeoolijekillaaGreatDoorQL8
import Derived.Lib.Overlaps
import Derived.Laws.BytesString
import Derived.Laws.Externs
import Derived.Laws.RangeAny
set_option linter.unusedSimpArgs false
set_option linter.unusedVariables false
set_option linter.unusedSectionVars false
namespace Go.SL
open Go
def bun (L:List HP):HP:=stars L
def ex {α:Type} (A:α→HP):HP:=fun S=>∃ x,A x S
theorem stars_bun {L M:List HP} {S:Piece} (h:stars (bun L::M) S):stars (L++M) S:=stars_append' h
theorem bun_stars {L M:List HP} {S:Piece} (h:stars (L++M) S):stars (bun L::M) S:=stars_append h
theorem stars_ex {α:Type} {A:α→HP} {M:List HP} {S:Piece} (h:stars (ex A::M) S):∃ x,stars (A x::M) S:=by
  obtain ⟨S1,S2,a,b,c,⟨x,d⟩,e⟩:=h;exact ⟨x,S1,S2,a,b,c,d,e⟩
theorem ex_stars {α:Type} {A:α→HP} {M:List HP} {S:Piece} (x:α) (h:stars (A x::M) S):stars (ex A::M) S:=by
  obtain ⟨S1,S2,a,b,c,d,e⟩:=h;exact ⟨S1,S2,a,b,c,⟨x,d⟩,e⟩
theorem stars_pu {φ:Prop} {M:List HP} {S:Piece} (h:stars (pu φ::M) S):φ∧stars M S:=⟨let ⟨_,_,_,_,_,h,_⟩:=h;h,stars_tail h⟩
theorem pu_stars {φ:Prop} {M:List HP} {S:Piece} (h:φ) (hs:stars M S):stars (pu φ::M) S:=⟨fun _=>none,S,fun _=>.inl rfl,(fun _ _ h=>by cases h),le_refl _,h,hs⟩
def RetK (g:World) (K:Value→List HP→Prop):Ending→World→Prop:=fun e w'=>∃ v M,e=.returned v∧K v M∧Sat g M w'
def CallV (P:Program) (g:World) (y:Value) (args:List Value) (Pre:List HP) (T:(Value→List HP→Prop)→List HP→Prop):Prop:=
  ∀ (R:List HP) (K:Value→List HP→Prop) (w:World) (r:Option Nat),Sat g (Pre++R) w→T K R →
    ∃ d nx w',(∀ w,(Deferred.ofValue y args.toArray).run P w=.ok d w)∧(invoke d.target d.args).run P w=.ok nx w' ∧
      match nx with
      | .enter f asq=>Calls P f asq w' (RetK g K)
      | .round l fn tmps assign body=>RoundIn (FR r) 0 P l fn tmps assign body w' (RetK g K)
      | _=>False
section
variable {P : Program} {r : Option Nat} {g : World} {Γ : Env} {L M : List HP} {dst : Option Tmp} {t : TypeId} {pos : String} {aft : Array Edge} {gd : Option (Nat × Bool)}
theorem CallV.of_spec {f:FuncId} {fs cs args:List Value} {Pre:List HP} {T:(Value→List HP→Prop)→List HP→Prop} (hs:Spec P g f (fs++args++cs) Pre T) (hf:callable P f=true):CallV P g (.func (.func f) fs.toArray cs.toArray) args Pre T:=
  fun R K w _ hw hT=>⟨{ target:=.fn (.func f) cs.toArray,args:=fs.toArray++args.toArray },.enter f (fs++args++cs).toArray,w,fun w=>rfl,by
    simp only [invoke];rw [callFunc_enter hf];simp,hs R K w hw hT⟩
theorem h_cally {y:Value} {x:Operand} {asq:List Operand} {ts:Array TypeId} {args:List Value} {Pre R:List HP} {T:(Value→List HP→Prop)→List HP→Prop} {K:Value→List HP→Prop} (hs:CallV P g y args Pre T) (hK:T K R) (hx:ev Γ x=some y:=by rfl) (ha:evs Γ asq=some args:=by rfl)
    (hL:Split L Pre R:=by repeat first | exact .nil | exact Pick.z | apply Pick.s | apply Split.cons):HO P r g ⟨dst,.call ⟨.value x,asq.toArray,ts⟩,t,pos,aft,gd⟩ Γ L K:=by
  intro a w Q next hΓ hw hn
  refine ⟨about_FR,?_⟩
  rw [Oper.semAt_eq _ _ _ (by simp)]
  obtain ⟨d,nx,w',h1,h2,h3⟩:=hs R K w r (hw.conv fun _=>hL.to) hK
  have hrun:(execOp a.eval ⟨dst,.call ⟨.value x,asq.toArray,ts⟩,t,pos,aft,gd⟩).run P w=.ok nx w':=by
    have hm:asq.toArray.map a.eval=args.toArray:=evs_mapA ha (fun x u _ hx=>ev_ok hx hΓ)
    show (do let d ← resolve a.eval ⟨.value x,asq.toArray,ts⟩ t;invoke d.target d.args:Sem Next).run P w=_
    simp only [resolve,hm,ev_ok hx hΓ,Sem.run_bind,h1,Result.andThen_ok,h2]
  rw [hrun]
  cases nx <;> simp only at h3 <;> first | exact h3.elim | skip
  · refine ⟨depth_FR r 0,HO.enter.callsIn_fr (h3.mono ?_)⟩
    rintro e w'' ⟨v,M,rfl,hk,hw'⟩
    exact hn v M w'' hk hw'
  · refine ⟨depth_FR r 0,RoundIn.mono h3 ?_⟩
    rintro e w'' ⟨v,M,rfl,hk,hw'⟩
    exact hn v M w'' hk hw'
def Hist {α:Type} (cont:List α→α→Prop) (pre:List α):Prop:=∀ p x q,pre=p++x::q→cont p x
theorem Hist.nil {α:Type} {cont:List α→α→Prop}:Hist cont []:=fun p x q h=>by simp at h
theorem Hist.snoc {α:Type} {cont:List α→α→Prop} {pre:List α} {x:α} (h:Hist cont pre) (hx:cont pre x):Hist cont (pre++[x]):=fun p y q e=>by
  rcases List.append_eq_append_iff.1 e with ⟨asq,h1,h2⟩ | ⟨asq,h1,h2⟩
  · cases asq with
    | nil=>simp at h1 h2;obtain ⟨rfl,rfl⟩:=h2;subst h1;exact hx
    | cons b bs=>simp at h2
  · cases asq with
    | nil=>simp at h1 h2;obtain ⟨rfl,rfl⟩:=h2;subst h1;exact hx
    | cons b bs=>simp at h2;obtain ⟨rfl,h3⟩:=h2;exact h p y bs h1
def Iter {α:Type} (P:Program) (g:World) (f:FuncId) (args:Value→List Value) (Pre:List HP) (enc:α→List Value) (Res:α→HP) (All Pfx:List α→Prop) (Out:List HP):Prop:=
  ∀ (y:Value) (J:List α→HP) (X:List α→α→HP) (cont:List α→α→Prop),
    (∀ pre x,Pfx (pre++[x])→Hist cont pre→CallV P g y (enc x) [J pre,Res x] fun K R=>(cont pre x→K (.bool true) (J (pre++[x])::R))∧(¬ cont pre x→K (.bool false) (X pre x::R))) →
    Spec P g f (args y) (J []::Pre) fun K R=>(∀ xs,All xs→Hist cont xs→K (.tuple #[]) (J xs::(Out++R))) ∧
      (∀ pre x,Pfx (pre++[x])→Hist cont pre→¬ cont pre x→K (.tuple #[]) (X pre x::(Out++R)))
def Lp (l:Nat) (rec:Loop):HP:=pt l (.loop rec)
def RndP (P:Program) (g:World) (l:Nat) (rec:Loop) (A:HP) (B:Code→HP) (c:Prop) (R:List HP):Post:=roundPost P l fun e w'=>
  (c∧e=.returned (.bool true)∧Sat g (Lp l { rec with state:=.ready,pending:=none }::A::R) w')∨(¬ c∧e=.returned (.bool false)∧∃ j,Sat g (Lp l { rec with state:=.done,pending:=some j }::B j::R) w')
section rounds
variable {l : Nat} {rec : Loop} {A : HP} {B : Code → HP} {c : Prop} {R : List HP}
theorem run_getLoop {w:World} (h:w.heap[l]?=some (.loop rec)):(Instr.getLoop l).run P w=.ok rec w:=by
  unfold Instr.getLoop
  rw [Sem.run_bind,run_getObj h (by simp)];rfl
theorem run_endRound {w:World} (h:w.heap[l]?=some (.loop rec)) (j:Option Code):(Instr.endRound l j).run P w=.ok (.bool j.isNone) { w with heap:=w.heap.setIfInBounds l (.loop { rec with state:=if j.isNone then .ready else .done,pending:=j }) }:=by
  unfold Instr.endRound
  simp only [Sem.run_bind,run_getLoop h,Result.andThen_ok,run_setObj h (by simp),Sem.run_pure]
theorem lp_set {w:World} {rec':Loop} (hw:Sat g (Lp l rec::M) w):Sat g (Lp l rec'::M) { w with heap:=w.heap.setIfInBounds l (.loop rec') }:=by
  obtain ⟨S1,S2,hd,l1,l2,h1,h2⟩:=hw.heap
  exact Sat.setObj (B:=Lp l rec') hw hd l1 l2 h1 h2 fun S hS _=>hS
theorem PO.rnd {n:Nat} {D:List Deferred} {m:List (Nat × Value)} (hc:c) (hL:Sub L (Lp l rec::A::R)):PO g (RndP P g l rec A B c R) .normal ⟨n,D,m⟩ L:=fun a w _ hw=>by
  have hw':=hw.conv fun _=>hL.to
  refine ⟨_,_,run_endRound (hw'.get .z) none,.inl ⟨hc,rfl,lp_set hw'⟩⟩
theorem PO.rnd_ret {n:Nat} {D:List Deferred} {m:List (Nat × Value)} (hc:¬ c) (hL:Sub L (Lp l rec::B .ret::R)):PO g (RndP P g l rec A B c R) .ret ⟨n,D,m⟩ L:=fun a w _ hw=>by
  have hw':=hw.conv fun _=>hL.to
  refine ⟨_,_,run_endRound (hw'.get .z) (some .ret),.inr ⟨hc,rfl,.ret,lp_set hw'⟩⟩
theorem PO.rnd_exit {n id:Nat} {D:List Deferred} {m:List (Nat × Value)} (hc:¬ c) (hL:Sub L (Lp l rec::B (.exit id)::R)):PO g (RndP P g l rec A B c R) (.exit id) ⟨n,D,m⟩ L:=fun a w _ hw=>by
  have hw':=hw.conv fun _=>hL.to
  refine ⟨_,_,run_endRound (hw'.get .z) (some (.exit id)),.inr ⟨hc,rfl,.exit id,lp_set hw'⟩⟩
end rounds
def setParams (ps:List Tmp) (vs:List Value) (l:List (Nat × Value)):List (Nat × Value):=(ps.zip vs).foldl (fun l p=>p::l) l
theorem setParams_ok {n:Nat} {ps:List Tmp} {vs:List Value} {l:List (Nat × Value)} {tmps:Array Value} (hps:ps.all (Nat.blt · n)=true) (h:Env.ok ⟨n,[],l⟩ ⟨tmps,[]⟩) :
    Env.ok ⟨n,[],setParams ps vs l⟩ ⟨(ps.toArray.zip vs.toArray).foldl (fun tmps (t,a)=>tmps.setIfInBounds t a) tmps,[]⟩:=by
  unfold setParams
  rw [List.zip_toArray,List.foldl_toArray]
  induction ps generalizing vs l tmps with
  | nil=>simpa using h
  | cons p ps ih=>
    cases vs with
    | nil=>simpa using h
    | cons v vs=>
      simp only [List.all_cons,Bool.and_eq_true] at hps
      simp only [List.zip_cons_cons,List.foldl_cons]
      exact ih hps.2 (Env.ok_put (a:=⟨tmps,[]⟩) v h (by simpa using hps.1))
def AsgP (P:Program) (g:World) (l:Nat) (body:Code) (Q:Post):Post:=Exit.then (fun a₁ w₁=>∃ w₂,(Instr.beginRound l).run P w₁=.ok () w₂∧body.wpIn (FR (some l)) 0 P Q a₁ w₂) (fun _ _ _=>False)
theorem PO.asg {l n:Nat} {body:Code} {Q:Post} {rec:Loop} {D:List Deferred} {m:List (Nat × Value)} (hr:rec.state=.ready) (hp:Put L (Lp l rec) (Lp l { rec with state:=.busy }) M) (h:WP P (some l) g body Q ⟨n,D,m⟩ M):PO g (AsgP P g l body Q) .normal ⟨n,D,m⟩ L:=fun a w ha hw=>by
  obtain ⟨R,p1,p2⟩:=hp.picks
  have hw1:=hw.conv fun _=>p1.to
  refine ⟨_,?_,h a _ ha ((lp_set (rec':={ rec with state:=.busy }) hw1).conv fun _=>p2.back)⟩
  unfold Instr.beginRound
  simp only [Sem.run_bind,run_getLoop (hw1.get .z),Result.andThen_ok,run_setObj (hw1.get .z) (by simp)]
  rw [hr];rfl
theorem stars_move {A:HP}:∀ {L M:List HP} {S:Piece},stars (A::(L++M)) S→stars (L++A::M) S
  | [],_,_,h=>h
  | _::_,_,_,h=>stars_cons (fun _=>stars_move) (stars_swap h)
theorem stars_unmove {A:HP}:∀ {L M:List HP} {S:Piece},stars (L++A::M) S→stars (A::(L++M)) S
  | [],_,_,h=>h
  | _::_,_,_,h=>stars_swap (stars_cons (fun _=>stars_unmove) h)
theorem run_endLoop {lb:Nat} {rec:Loop} {w:World} (h:w.heap[lb]?=some (.loop rec)) (hb:(rec.state == .busy)=false):(Instr.endLoop lb).run P w=.ok rec.pending { w with heap:=w.heap.setIfInBounds lb (.loop { rec with state:=.exhausted }) }:=by
  unfold Instr.endLoop
  simp only [Sem.run_bind,run_getLoop h,Result.andThen_ok,hb,Bool.false_eq_true,if_false,Sem.run_pure,run_setObj h (by simp)]
theorem yield_run {lb:Nat} {rec:Loop} {w:World} {args:List Value} (h:w.heap[lb]?=some (.loop rec)) (hl:args.length=rec.params.size) :
    (invoke (.fn (.yield lb) #[]) args.toArray).run P w=.ok (.round lb rec.fn ((rec.params.zip args.toArray).foldl (fun tmps (t,a)=>tmps.setIfInBounds t a) rec.tmps) rec.assign rec.body) w:=by
  simp only [invoke,Instr.yield,Sem.run_bind,run_getLoop h,Result.andThen_ok]
  rw [if_neg (by simp [hl])];rfl
theorem WP.range {α:Type} {enc:α→List Value} {gop:Operand} {ps:List Tmp} {assign body:Code} {fs cs:List Value} {f:FuncId} {n:Nat} {D:List Deferred} {l:List (Nat × Value)} {Pre Out R:List HP} {All Pfx:List α→Prop} {Q:Post}
    (J:List α→HP) (X:List α→α→Code→HP) (cont:List α→α→Prop) {Res:α→HP} (hit:Iter P g f (fun y=>fs++[y]++cs) Pre enc Res All Pfx Out) (hf:callable P f=true)
    (hL:Split L (J []::Pre) R)
    (hbody:∀ lb db fn tmps pre x R',Pfx (pre++[x])→Hist cont pre→WP P (some lb) g assign (AsgP P g lb body (RndP P g lb ⟨.busy,none,fn,tmps,ps.toArray,assign,body,db⟩ (J (pre++[x])) (X pre x) (cont pre x) R')) ⟨n,[],setParams ps (enc x) l⟩ (Lp lb ⟨.ready,none,fn,tmps,ps.toArray,assign,body,db⟩::J pre::Res x::R'))
    (hdone:∀ db xs,All xs→Hist cont xs→PO g Q .normal ⟨n,⟨.collected db,#[]⟩::D,l⟩ (J xs::pt db (.deferred (some []))::(Out++R)))
    (hstop:∀ db pre x j,Pfx (pre++[x])→Hist cont pre→¬ cont pre x→WP P none g j Q ⟨n,⟨.collected db,#[]⟩::D,l⟩ (X pre x j::pt db (.deferred (some []))::(Out++R)))
    (hpl:∀ x,(enc x).length=ps.length) (hg:ev ⟨n,D,l⟩ gop=some (.func (.func f) fs.toArray cs.toArray):=by rfl) (hps:ps.all (Nat.blt · n)=true:=by rfl):WP P none g (.rangeFunc gop ps.toArray assign body) Q ⟨n,D,l⟩ L:=by
  intro a w ha hw
  refine wpIn_rangeFunc fun fn _=>?_
  let db:=w.heap.size
  let lb:=w.heap.size+1
  let rec0:Loop:=⟨.ready,none,fn,a.tmps,ps.toArray,assign,body,db⟩
  let w1:World:=(w.alloc (.deferred (some []))).alloc (.loop rec0)
  have hent:(Instr.enterLoop fn a.tmps ps.toArray assign body (FR none).round).run P w=.ok (lb,[⟨.collected db,#[]⟩]) w1:=by
    unfold Instr.enterLoop
    simp [FR,Fence.wide,w1,lb,db,rec0]
  refine ⟨lb,[⟨.collected db,#[]⟩],w1,{ target:=.fn (.func f) cs.toArray,args:=fs.toArray++#[Value.func (.yield lb) #[] #[]] },w1,f,(fs++[Value.func (.yield lb) #[] #[]]++cs).toArray,w1,hent,?_,fun _ _=>trivial,?_,depth_FR none 0,?_⟩
  · simp only [resolve,ev_ok hg ha]
    simp [Deferred.ofValue,Act.eval]
  · simp only [invoke];rw [callFunc_enter hf];simp
  · 
    let J':List α→HP:=fun pre=>bun [Lp lb rec0,J pre]
    let X':List α→α→HP:=fun pre x=>ex fun j:Code=>bun [Lp lb { rec0 with state:=.done,pending:=some j },X pre x j]
    have hy:∀ pre x,Pfx (pre++[x])→Hist cont pre→CallV P g (.func (.yield lb) #[] #[]) (enc x) [J' pre,Res x] fun K R=>(cont pre x→K (.bool true) (J' (pre++[x])::R))∧(¬ cont pre x→K (.bool false) (X' pre x::R)):=by
      intro pre x hp hh R' K w2 r2 hw2 ⟨hT1,hT2⟩
      have hw3:Sat g (Lp lb rec0::J pre::Res x::R') w2:=hw2.conv fun _=>stars_bun
      refine ⟨{ target:=.fn (.yield lb) #[],args:=(enc x).toArray },_,w2,fun w=>by simp [Deferred.ofValue],yield_run (rec:=rec0) (hw3.get .z) (by simp [rec0,hpl]),?_⟩
      show RoundIn (FR r2) 0 P lb fn ((ps.toArray.zip (enc x).toArray).foldl (fun tmps (t,a)=>tmps.setIfInBounds t a) a.tmps) assign body w2 (RetK g K)
      refine roundIn_of_wpIn trivial ?_
      have hΓ:Env.ok ⟨n,[],setParams ps (enc x) l⟩ ⟨(ps.toArray.zip (enc x).toArray).foldl (fun tmps (t,a)=>tmps.setIfInBounds t a) a.tmps,[]⟩:=setParams_ok hps ⟨ha.size,rfl,ha.at_⟩
      refine wpIn_mono (hbody lb db fn a.tmps pre x R' hp hh _ w2 hΓ hw3) ?_
      intro e a₁ w₁ hq
      cases e <;> first | exact hq.elim | skip
      obtain ⟨w₂,hb,hq⟩:=hq
      refine ⟨w₂,hb,wpIn_mono hq ?_⟩
      intro e a₂ w₃ hq
      have fin:∀ v w₄,((cont pre x∧Ending.returned v=.returned (.bool true)∧Sat g (Lp lb { rec0 with state:=.ready,pending:=none }::J (pre++[x])::R') w₄)∨(¬ cont pre x∧Ending.returned v=.returned (.bool false)∧∃ j,Sat g (Lp lb { rec0 with state:=.done,pending:=some j }::X pre x j::R') w₄))→RetK g K (.returned v) w₄:=by
        rintro v w₄ (⟨hc,e1,h1⟩ | ⟨hc,e1,j,h1⟩)
        · cases e1
          exact ⟨_,_,rfl,hT1 hc,h1.conv fun _=>bun_stars (L:=[_,_])⟩
        · cases e1
          exact ⟨_,_,rfl,hT2 hc,h1.conv fun _ h=>ex_stars j (bun_stars (L:=[_,_]) h)⟩
      cases e <;> first | exact hq.elim | skip
      all_goals
        obtain ⟨v,w₄,h1,h2⟩:=hq
        exact ⟨v,w₄,h1,fin v w₄ h2⟩
    have hw1:Sat g (J' []::Pre++(pt db (.deferred (some []))::R)) w1:=by
      have h1:=hw.push (.deferred (some []))
      have h2:=h1.push (.loop rec0)
      refine h2.conv fun S hS=>?_
      have h3:(w.alloc (.deferred (some []))).heap.size=lb:=by simp [lb]
      have hS':stars (Lp lb rec0::pt db (.deferred (some []))::L) S:=by
        have:=hS;simp only [World.alloc] at h3;rw [h3] at this;exact this
      have h4:stars (Lp lb rec0::pt db (.deferred (some []))::(J []::Pre++R)) S:=stars_cons (fun _=>stars_cons (fun _=>hL.to)) hS'
      refine bun_stars (L:=[Lp lb rec0,J []]) ?_
      refine stars_cons (fun S h=>?_) h4
      have h5:stars (J []::pt db (.deferred (some []))::(Pre++R)) S:=stars_swap h
      exact stars_cons (fun S h=>stars_move h) h5
    have hcall:=hit (.func (.yield lb) #[] #[]) J' X' cont hy (pt db (.deferred (some []))::R) (fun v M=>∀ w3,Sat g M w3→rangePost (FR none) 0 P lb Q { a with defers:=[⟨.collected db,#[]⟩]++a.defers } (.returned v) w3) w1 hw1 ?_
    · refine HO.enter.callsIn_fr (hcall.mono ?_)
      rintro e w3 ⟨v,M,rfl,hk,hw3⟩
      exact hk w3 hw3
    · have haD:Env.ok ⟨n,⟨.collected db,#[]⟩::D,l⟩ { a with defers:=[⟨.collected db,#[]⟩]++a.defers }:=⟨ha.size,by simp [show a.defers=D from ha.defers],ha.at_⟩
      refine ⟨fun xs hx hh w3 hw3=>?_,fun pre x hp hh hc w3 hw3=>?_⟩
      · have h1:Sat g (Lp lb rec0::J xs::(Out++pt db (.deferred (some []))::R)) w3:=hw3.conv fun _=>stars_bun
        refine ⟨none,_,run_endLoop (h1.get .z) rfl,?_⟩
        have h2:=lp_set (rec':={ rec0 with state:=.exhausted }) h1
        exact hdone db xs hx hh _ _ haD (h2.conv fun _ h=>stars_cons (fun _=>stars_unmove) (stars_tail h))
      · obtain ⟨j,h1⟩:∃ j,Sat g (Lp lb { rec0 with state:=.done,pending:=some j }::X pre x j::(Out++pt db (.deferred (some []))::R)) w3:=by
          obtain ⟨j,hj⟩:=stars_ex hw3.heap
          exact ⟨j,hw3.os,hw3.tape,hw3.output,hw3.size,stars_bun hj⟩
        refine ⟨some j,_,run_endLoop (h1.get .z) rfl,?_⟩
        have h2:=lp_set (rec':={ rec0 with state:=.exhausted,pending:=some j }) h1
        exact hstop db pre x j hp hh hc _ _ haD (h2.conv fun _ h=>stars_cons (fun _=>stars_unmove) (stars_tail h))
end
end Go.SL
namespace Go.SL
open Go
theorem w_i64 {x:Int} (h1:-9223372036854775808≤x) (h2:x≤9223372036854775807):IntKind.i64.wrap x=x:=IntWalk.i64_in _ (by omega)
section
variable {P : Program} {r : Option Nat} {g : World} {Γ : Env} {L M : List HP} {Q : Post} {dst : Option Tmp} {t : TypeId} {pos : String} {aft : Array Edge} {gd : Option (Nat × Bool)}
theorem WP.know {c:Code} {φ:Prop} (h:∀ S,stars L S→φ) (k:φ→WP P r g c Q Γ L):WP P r g c Q Γ L:=fun a w ha hw=>k (h _ hw.heap) a w ha hw
theorem WL.know {ops rest:List Oper} {φ:Prop} (h:∀ S,stars L S→φ) (k:φ→WL P r g ops rest Q Γ L):WL P r g ops rest Q Γ L:=fun a w ha hw=>k (h _ hw.heap) a w ha hw
theorem PO.know {e:Exit} {φ:Prop} (h:∀ S,stars L S→φ) (k:φ→PO g Q e Γ L):PO g Q e Γ L:=fun a w ha hw=>k (h _ hw.heap) a w ha hw
theorem Pick.know {A:HP} {φ:Prop} (hp:Pick L A M) (h:∀ S,A S→φ):∀ S,stars L S→φ:=fun S hS=>by
  obtain ⟨S1,_,_,_,_,h1,_⟩:=hp.to hS;exact h S1 h1
theorem pick_ne {b c:Nat} {o o':Obj} {N:List HP} (h1:Pick L (pt b o) M) (h2:Pick M (pt c o') N):∀ S,stars L S→b≠c:=fun S hS=>by
  obtain ⟨S1,S2,hd,_,l2,h3,h4⟩:=h1.to hS
  obtain ⟨S3,S4,_,l3,_,h5,_⟩:=h2.to h4
  intro e;subst e
  have e1:S1 b=some o:=h3
  have e2:=l3 _ _ (show S3 b=some o' from h5)
  rcases hd b with h | h
  · rw [e1] at h;cases h
  · rw [e2] at h;cases h
theorem WL.pull {ops rest:List Oper} {φ:Prop} {R:List HP} (hp:Pick L (pu φ) R:=by repeat first | exact .z | apply Pick.s) (k:φ→WL P r g ops rest Q Γ R):WL P r g ops rest Q Γ L:=
  fun a w ha hw=>by
    have h:=stars_pu (hp.to hw.heap)
    exact k h.1 a w ha ⟨hw.os,hw.tape,hw.output,hw.size,h.2⟩
theorem WP.pull {c:Code} {φ:Prop} {R:List HP} (hp:Pick L (pu φ) R:=by repeat first | exact .z | apply Pick.s) (k:φ→WP P r g c Q Γ R):WP P r g c Q Γ L:=
  fun a w ha hw=>by
    have h:=stars_pu (hp.to hw.heap)
    exact k h.1 a w ha ⟨hw.os,hw.tape,hw.output,hw.size,h.2⟩
theorem conv1 {A B:HP} {N:List HP} (h:∀ S,A S→B S) (hp:Put L A B N):∀ S,stars L S→stars N S:=by
  induction hp with
  | z=>exact fun S ⟨S1,S2,a,b,c,d,e⟩=>⟨S1,S2,a,b,c,h S1 d,e⟩
  | s _ ih=>exact fun S hS=>stars_cons (fun S=>ih h S) hS
section
variable {ops : List Oper} {n : Nat} {D : List Deferred}
theorem dropS_look {ds:List Nat} {l l':List (Nat × Value)} (h:∀ i,look l i=look l' i):∀ i,look (dropS ds l) i=look (dropS ds l') i:=fun i=>by
  by_cases hi:i ∈ ds
  · rw [look_dropS_none _ _ _ hi,look_dropS_none _ _ _ hi]
  · rw [look_dropS _ _ _ hi,look_dropS _ _ _ hi];exact h i
theorem wants_look {l l':List (Nat × Value)} (h:∀ i,look l i=look l' i) (gd:Option (Nat × Bool)):wants ops l' gd=wants ops l gd:=by
  unfold wants
  cases gd with
  | none=>rfl
  | some x=>
    have:(look l')=look l:=funext fun i=>(h i).symm
    simp only [this]
theorem ok_look {l l':List (Nat × Value)} (h:∀ i,look l i=look l' i) {a:Act} (ha:Env.ok ⟨n,D,l'⟩ a):Env.ok ⟨n,D,l⟩ a:=⟨ha.size,ha.defers,fun i v hi=>ha.at_ i v ((h i) ▸ hi)⟩
theorem ev_look {l l':List (Nat × Value)} (h:∀ i,look l i=look l' i) {o:Oper} {v:Value} (he:EV P g ops o ⟨n,D,l⟩ L v):EV P g ops o ⟨n,D,l'⟩ L v:=
  ev_mono (fun t _=>(h t).symm) (wants_look h _) he
theorem RW_look:∀ (k:Nat) (vd:List Nat) (pend l l':List (Nat × Value)) (L:List HP),(∀ i,look l i=look l' i)→RW P r g ops Q n D k vd pend l L→RW P r g ops Q n D k vd pend l' L
  | 0,vd,pend,l,l',L,h,⟨h1,h2,h3⟩=>⟨h1,h2,fun a w ha hw=>h3 a w (ok_look h ha) hw⟩
  | k+1,vd,pend,l,l',L,h,.inl ⟨i,o,d,v,a1,a2,a3,a4,a5,a5',a6,a7⟩=>.inl ⟨i,o,d,v,a1,a2,a3,a4,a5,a5',ev_look h a6,RW_look k _ _ _ _ _ (fun j=>by simp only [look];split <;> first | rfl | exact h j) a7⟩
  | k+1,vd,pend,l,l',L,h,.inr ⟨h1,h2⟩=>.inr ⟨h1,fun i hi=>by
      obtain ⟨o,a1,a2,a3,a4⟩:=h2 i hi
      have hl:∀ v,∀ j,look (match o.dst with | some d=>(d,v)::l | none=>l) j=look (match o.dst with | some d=>(d,v)::l' | none=>l') j:=fun v j=>by
        cases o.dst with
        | none=>exact h j
        | some d=>simp only [look];split <;> first | rfl | exact h j
      refine ⟨o,a1,a2,(wants_look (dropS_look h) _).trans a3,fun a w Q' next ha hw hn=>a4 a w Q' next (ok_look (dropS_look h) ha) hw fun v M w' hk hw'=>hn v M w' ⟨fun j u hj=>?_,RW_look k _ _ _ _ _ (hl v) hk.2⟩ hw'⟩
      obtain ⟨oj,b1,b2⟩:=hk.1 j u hj
      exact ⟨oj,b1,ev_look (hl v) b2⟩⟩
theorem RW.bool {k:Nat} {vd:List Nat} {pend l:List (Nat × Value)} (d:Nat) {b:Bool} (hl:look l d=some (.bool b)) (ht:b=true→RW P r g ops Q n D k vd pend ((d,.bool true)::l) L) (hf:b=false→RW P r g ops Q n D k vd pend ((d,.bool false)::l) L):RW P r g ops Q n D k vd pend l L:=by
  have hs:∀ c,b=c→∀ i,look ((d,.bool c)::l) i=look l i:=fun c e i=>by
    subst e
    by_cases e:d=i
    · subst e;simp [look,hl]
    · simp only [look,beq_no e]
  cases hb:b with
  | true=>exact RW_look _ _ _ _ _ _ (hs _ hb) (ht hb)
  | false=>exact RW_look _ _ _ _ _ _ (hs _ hb) (hf hb)
end
theorem h_range_str {x:Operand} {T:TypeId} {s:ByteArray} {K:Value→List HP→Prop} (ht:P.underlying T=some .string) (hK:∀ i,K (.pointer (some ⟨i,0,none⟩)) (pt i (.stringIter s 0)::L)) (hx:ev Γ x=some (.string s):=by rfl):HO P r g ⟨dst,.range T x,t,pos,aft,gd⟩ Γ L K:=
  HO.run (by simp) fun a w ha hw=>by
    refine ⟨_,_,w.alloc (.stringIter s 0),?_,hK w.heap.size,hw.push (.stringIter s 0)⟩
    simp [execOp,ev_ok hx ha,Instr.range,run_underlying ht]
theorem h_next_str {x:Operand} {s:ByteArray} {i p:Nat} {R:List HP} {K:Value→List HP→Prop} (h0:¬ p < s.size→K (.tuple #[.bool false]) L) (h1:p < s.size→K (.tuple #[.bool true,.int .i64 p,.int .i32 (Utf8.decode s p).1]) (pt i (.stringIter s (p+(Utf8.decode s p).2))::R))
    (hx:ev Γ x=some (.pointer (some ⟨i,0,none⟩)):=by rfl) (hp:Pick L (pt i (.stringIter s p)) R:=by repeat first | exact .z | apply Pick.s):HO P r g ⟨dst,.next x true,t,pos,aft,gd⟩ Γ L K:=
  HO.run (by simp) fun a w ha hw=>by
    have hi:=hw.get hp
    by_cases h:p < s.size
    · have hlt:i < w.heap.size:=by
        rcases Nat.lt_or_ge i w.heap.size with h' | h'
        · exact h'
        · rw [Array.getElem?_eq_none h'] at hi;cases hi
      refine ⟨_,_,{ w with heap:=w.heap.setIfInBounds i (.stringIter s (p+(Utf8.decode s p).2)) },?_,h1 h,(hw.conv fun _=>hp.to).set (.z (B:=pt i (.stringIter s (p+(Utf8.decode s p).2)))) _ rfl rfl rfl (by simp) (by simp [hlt]) (fun j hj=>by simp [Array.getElem?_setIfInBounds_ne (Ne.symm hj)])⟩
      simp [execOp,ev_ok hx ha,Instr.next,run_getObj hi,h,run_setObj hi,goInt]
    · refine ⟨_,_,w,?_,h0 h,hw⟩
      simp [execOp,ev_ok hx ha,Instr.next,run_getObj hi,h]
def isNilV:Value→Bool
  | .slice none _ _=>true
  | _=>false
theorem run_eq_slnil {T E z y n c:Nat} {a:Option Addr} (hT:slOf P T=some (E,z,y)) (w:World):(Op.equal T (.slice a n c) (.slice none 0 0)).run P w=.ok (isNilV (.slice a n c)) w:=by
  unfold slOf at hT
  split at hT
  case h_2=>cases hT
  case h_1 e hu=>
    unfold Op.equal;rw [show Op.maxDepth=9999+1 from rfl];unfold Op.equalIn;simp only [Sem.run_bind,run_underlying hu,Result.andThen_ok]
    cases a <;> rfl
theorem e_slnil {xt yt:TypeId} {x y:Operand} {E z z' b n:Nat} {u:Value} {A:HP} {cs:List Value} (hT:slOf P xt=some (E,z',b)) (hA:Rd A z u n cs) (hx:ev Γ x=some u:=by rfl) (hy:ev Γ y=some (.slice none 0 0):=by rfl) (hp:Pick L A M:=by repeat first | exact .z | apply Pick.s) :
    EO P g ⟨dst,.binOp .eql xt x y yt,t,pos,aft,gd⟩ Γ L (.bool (isNilV u)):=
  .of (by simp) fun ρ hρ w hw=>by
    have h1:=hρ x u (by simp [Op.operands]) hx
    have h2:=hρ y _ (by simp [Op.operands]) hy
    have hr:=hw.rd hp hA
    have hsh:∃ a n c,u=.slice a n c:=by rcases hr with ⟨rfl,_,a,c,rfl⟩ | ⟨b,o,c,l,t,rfl,_⟩ <;> exact ⟨_,_,_,rfl⟩
    obtain ⟨a,n,c,rfl⟩:=hsh
    show ((do pure (Next.value (← (do eqGuard .eql xt x y (ρ x) (ρ y);binOp .eql xt (ρ x) (ρ y):Sem Value))):Sem Next)).run P w=_
    rw [h1,h2,eqGuard_at_slice]
    show ((do pure (Next.value (← (do pure (.bool (← Op.equal xt (.slice a n c) (.slice none 0 0))):Sem Value))):Sem Next)).run P w=_
    simp only [Sem.run_bind,run_eq_slnil hT,Result.andThen_ok,Sem.run_pure]
end
end Go.SL
namespace Go.SL
open Go
def At (u:Value) (b o n c:Nat):Prop:=∃ x,u=.slice x n c∧n≤c∧(x=some ⟨b,o,none⟩∨c=0)
theorem At.lit {b o n c:Nat} (h:n≤c):At (.slice (some ⟨b,o,none⟩) n c) b o n c:=⟨_,rfl,h,.inl rfl⟩
theorem At.le {u:Value} {b o n c:Nat} (h:At u b o n c):n≤c:=h.choose_spec.2.1
theorem At.rd {u:Value} {b o n c z:Nat} {T:TypeId} {l:List Value} (h:At u b o n c) (hc:o+c * z≤l.length):Rd (cl b T l) z u n ((l.drop o).take (n * z)):=by
  obtain ⟨x,rfl,hn,rfl | rfl⟩:=h
  · exact cl_rd hn hc rfl
  · have:n=0:=by omega
    subst this
    intro S _;exact .inl ⟨rfl,by simp,_,_,rfl⟩
theorem own_at {S:Piece} {E z n:Nat} {u:Value} {cs:List Value} (h:Own E z u n cs S) (h0:0 < n):∃ b o c l,u=.slice (some ⟨b,o,none⟩) n c∧n≤c∧c < 9223372036854775808∧o+c * z≤l.length∧(l.drop o).take (n * z)=cs∧cl b E l S:=by
  rcases h with ⟨rfl,_⟩ | ⟨b,o,c,l,h1,h2,h3,h4,h5,h6⟩
  · omega
  · exact ⟨b,o,c,l,h1,h2,h3,h5,h6.symm,h4⟩
theorem at_own {u:Value} {b o n c z:Nat} {E:TypeId} {l cs:List Value} (h:At u b o n c) (hc:c < 9223372036854775808) (hl:o+c * z≤l.length) (hcs:(l.drop o).take (n * z)=cs):∀ S,cl b E l S→Own E z u n cs S:=fun S hS=>by
  obtain ⟨x,rfl,hn,rfl | rfl⟩:=h
  · exact .inr ⟨b,o,c,l,rfl,hn,hc,hS,hl,hcs.symm⟩
  · have:n=0:=by omega
    subst this;simp at hcs;subst hcs
    exact .inl ⟨rfl,rfl,_,rfl⟩
section
variable {P : Program} {r : Option Nat} {g : World} {Γ : Env} {L M : List HP} {Q : Post} {dst : Option Tmp} {t : TypeId} {pos : String} {aft : Array Edge} {gd : Option (Nat × Bool)}
theorem WP.own_open {c:Code} {E z n:Nat} {u:Value} {cs:List Value} {R:List HP} (h0:0 < n) (hp:Pick L (Own E z u n cs) R) (k:∀ b o c' l,u=.slice (some ⟨b,o,none⟩) n c'→n≤c'→c' < 9223372036854775808→o+c' * z≤l.length→(l.drop o).take (n * z)=cs→WP P r g c Q Γ (cl b E l::R)):WP P r g c Q Γ L:=fun a w ha hw=>by
  obtain ⟨S1,S2,hd,l1,l2,h1,h2⟩:=hp.to hw.heap
  obtain ⟨b,o,c',l,e1,e2,e3,e4,e5,e6⟩:=own_at h1 h0
  exact k b o c' l e1 e2 e3 e4 e5 a w ha ⟨hw.os,hw.tape,hw.output,hw.size,S1,S2,hd,l1,l2,e6,h2⟩
theorem slOf_und {T E z y:Nat} (hs:slOf P T=some (E,z,y)):P.underlying T=some (.slice E)∧szOf P E=some z∧∃ i,P.info? E=some i∧i.size=z∧i.bytes=y:=by
  unfold slOf at hs
  split at hs
  case h_2=>cases hs
  case h_1 e hu=>
    simp only [Option.map_eq_some_iff] at hs
    obtain ⟨i,hi,hs⟩:=hs
    cases hs
    exact ⟨hu,by simp [szOf,hi],i,hi,rfl,rfl⟩
def subAt (u:Value) (lo hi c z:Nat):Value:=match u with
  | .slice a _ _=>.slice (if c=lo then a else a.map (·.add (lo * z))) (hi - lo) (c - lo)
  | v=>v
theorem At.sub {u:Value} {b o n c lo hi m z:Nat} (h:At u b o n c) (h1:lo≤hi) (h2:hi≤m) (h3:m≤c):At (subAt u lo hi m z) b (o+lo * z) (hi - lo) (m - lo):=by
  obtain ⟨x,rfl,hn,hx⟩:=h
  refine ⟨_,rfl,by omega,?_⟩
  by_cases e:m=lo
  · right;omega
  · rcases hx with rfl | rfl
    · left;simp [e,add_none]
    · omega
theorem e_slice_at {T E z y n c lo hi m b o:Nat} {x:Operand} {xl xh xm:Option Operand} {u:Value} (hs:slOf P T=some (E,z,y)) (hx:ev Γ x=some u) (hA:At u b o n c)
    (hlo:(xl=none∧lo=0)∨∃ o k,xl=some o∧ev Γ o=some (.int k lo)) (hhi:(xh=none∧hi=n∧xm=none)∨∃ o k,xh=some o∧ev Γ o=some (.int k hi)) (hmx:(xm=none∧m=c)∨∃ o k,xm=some o∧ev Γ o=some (.int k m))
    (h1:lo≤hi) (h2:hi≤m) (h3:m≤c):EO P g ⟨dst,.slice T x xl xh xm,t,pos,aft,gd⟩ Γ L (subAt u lo hi m z):=
  .of (by simp) fun ρ hρ w _=>by
    obtain ⟨a,rfl,hn,_⟩:=hA
    have hx':=hρ x _ (by simp [Op.operands]) hx
    rcases hmx with ⟨rfl,rfl⟩ | ⟨om,km,rfl,hm⟩
    · have:=run_sliceAt (P:=P) (a:=a) (c:=m) (n:=n) (lo:=lo) (hi:=hi) (lo':=xl.map ρ) (hi':=xh.map ρ) (mx':=none) (mx:=none) hs
        (by rcases hlo with ⟨rfl,rfl⟩ | ⟨o,k,rfl,h⟩
            · exact .inl ⟨rfl,rfl⟩
            · exact .inr ⟨k,by simp [hρ o _ (by simp [Op.operands]) h]⟩)
        (by rcases hhi with ⟨rfl,rfl,_⟩ | ⟨o,k,rfl,h⟩
            · exact .inl ⟨rfl,rfl,rfl⟩
            · exact .inr ⟨k,by simp [hρ o _ (by simp [Op.operands]) h]⟩)
        (.inl ⟨rfl,rfl⟩) h1 (by simpa using h2) (by simp) w
      simp only [execOp,hx',Option.map_none,Sem.run_bind,this,Result.andThen_ok];rfl
    · have:=run_sliceAt (P:=P) (a:=a) (c:=c) (n:=n) (lo:=lo) (hi:=hi) (lo':=xl.map ρ) (hi':=xh.map ρ) (mx':=some (.int km m)) (mx:=some m) hs
        (by rcases hlo with ⟨rfl,rfl⟩ | ⟨o,k,rfl,h⟩
            · exact .inl ⟨rfl,rfl⟩
            · exact .inr ⟨k,by simp [hρ o _ (by simp [Op.operands]) h]⟩)
        (by rcases hhi with ⟨_,_,h⟩ | ⟨o,k,rfl,h⟩
            · cases h
            · exact .inr ⟨k,by simp [hρ o _ (by simp [Op.operands]) h]⟩)
        (.inr ⟨km,m,rfl,rfl⟩) h1 (by simpa using h2) (by simpa using h3) w
      simp only [execOp,hx',Option.map_some,hρ om _ (by simp [Op.operands]) hm,Sem.run_bind,this,Result.andThen_ok];rfl
theorem e_cap {T E z y n c b o:Nat} {x:Operand} {u:Value} (hs:slOf P T=some (E,z,y)) (hx:ev Γ x=some u) (hA:At u b o n c):EO P g ⟨dst,.call ⟨.builtin .cap,#[x],#[T]⟩,t,pos,aft,gd⟩ Γ L (.int .i64 c):=
  e_call_b (args:=[x]) (vs:=[u]) (by simp [evs,hx]) fun w cs' hw=>by
    obtain ⟨a,rfl,_⟩:=hA
    simp [builtin,Builtin.cap_,run_underlying (slOf_und hs).1,goInt]
theorem e_slice_arr {T E n z b o lo hi:Nat} {x:Operand} {xl xh:Option Operand} (hs:arrOf P T=some (E,n,z)) (hx:ev Γ x=some (.pointer (some ⟨b,o,none⟩)))
    (hlo:(xl=none∧lo=0)∨∃ o k,xl=some o∧ev Γ o=some (.int k lo)) (hhi:(xh=none∧hi=n)∨∃ o k,xh=some o∧ev Γ o=some (.int k hi)) (h1:lo≤hi) (h2:hi≤n):EO P g ⟨dst,.slice T x xl xh none,t,pos,aft,gd⟩ Γ L (subAt (.slice (some ⟨b,o,none⟩) n n) lo hi n z):=
  .of (by simp) fun ρ hρ w _=>by
    have hx':=hρ x _ (by simp [Op.operands]) hx
    unfold arrOf at hs
    split at hs
    case h_2=>cases hs
    case h_1 hu=>
      simp only [Option.map_eq_some_iff] at hs
      obtain ⟨inf,hinf,hs⟩:=hs
      cases hs
      have hz:szOf P E=some inf.size:=by simp [szOf,hinf]
      have hl2:(xl=none∧lo=0)∨∃ o k,xl=some o∧ρ o=.int k lo:=by
        rcases hlo with h | ⟨o,k,h,h'⟩
        · exact .inl h
        · subst h;exact .inr ⟨o,k,rfl,hρ o _ (by simp [Op.operands]) h'⟩
      have hh2:(xh=none∧hi=n)∨∃ o k,xh=some o∧ρ o=.int k hi:=by
        rcases hhi with h | ⟨o,k,h,h'⟩
        · exact .inl h
        · subst h;exact .inr ⟨o,k,rfl,hρ o _ (by simp [Op.operands]) h'⟩
      have h5:(lo:Int)≤hi:=by omega
      have h6:(hi:Int)≤n:=by omega
      rcases hl2 with ⟨rfl,rfl⟩ | ⟨ol,kl,rfl,hol⟩ <;> rcases hh2 with ⟨rfl,rfl⟩ | ⟨oh,kh,rfl,hoh⟩ <;>
        simp_all [execOp,Instr.sliceAt,Instr.sureAddr,run_underlying hu,Instr.sliceBounds,Instr.sliceBound,asIntOf,run_sizeOf hz,subAt] <;> split <;> rfl
theorem ones_take:∀ {l:List Value} (k:Nat),ones l=true→ones (l.take k)=true
  | [],k,_=>by simp [ones]
  | v::l,0,_=>rfl
  | v::l,k+1,h=>by
    simp only [ones,Bool.and_eq_true,List.take_succ_cons] at h ⊢
    exact ⟨h.1,ones_take k h.2⟩
theorem run_copy {T T2 E z y n c k b o:Nat} {l ds:List Value} {v:Value} {a:Option Addr} {w:World} {U:TypeId} (hs:slOf P T=some (E,z,y)) (ha:a=some ⟨b,o,none⟩∨n=0) (hn:n≤c) (hl:o+c * z≤l.length)
    (h:w.heap[b]?=some (.cells l.toArray U (0,0))) (hlen:(Builtin.lenOf v).run P w=.ok k w) (hcs:∀ m,m≤k→∃ vs,(Builtin.firstCells z m v).run P w=.ok vs w∧(vs.toList=ds.take (m * z))) (hdl:ds.length=k * z) (h1:ones (ds.take (Nat.min k n * z))=true) :
    ∃ w',(Builtin.copy_ #[T,T2] t #[.slice a n c,v]).run P w=.ok (goInt (Nat.min k n)) w'∧w'.os=w.os∧w'.tape=w.tape∧w'.output=w.output∧w'.heap.size=w.heap.size∧w'.heap[b]?=some (.cells (splice l o (ds.take (Nat.min k n * z))).toArray U (0,0))∧∀ j,j≠b→w'.heap[j]?=w.heap[j]?:=by
  obtain ⟨hu,hsz,_⟩:=slOf_und hs
  obtain ⟨vs,hv1,hv2⟩:=hcs (Nat.min k n) (Nat.min_le_left _ _)
  have hm:Nat.min k n * z≤c * z:=Nat.mul_le_mul_right _ (Nat.le_trans (Nat.min_le_right _ _) hn)
  have hmk:Nat.min k n * z≤k * z:=Nat.mul_le_mul_right _ (Nat.min_le_left _ _)
  have htl:(ds.take (Nat.min k n * z)).length=Nat.min k n * z:=by rw [List.length_take,hdl];omega
  rcases ha with rfl | rfl
  · obtain ⟨w',hr,a1,a2,a3,a4,a5,a6⟩:=run_storeCells (P:=P) (T:=U) (b:=b) (ds.take (Nat.min k n * z)) 0 o l w h (by omega) (ones_ok h1)
    refine ⟨w',?_,a1,a2,a3,a4,by simpa using a5,a6⟩
    simp [Builtin.copy_,run_underlying hu,hlen,run_sizeOf hsz,hv1,hv2,hr]
  · have e0:Nat.min k 0=0:=Nat.min_eq_right (Nat.zero_le _)
    rw [e0] at hv1 hv2 ⊢
    simp at hv2
    refine ⟨w,?_,rfl,rfl,rfl,rfl,by simpa [splice] using h,fun _ _=>rfl⟩
    have hvs:vs=#[]:=by apply Array.ext';simp [hv2]
    subst hvs
    cases a <;> simp [Builtin.copy_,run_underlying hu,hlen,run_sizeOf hsz,hv1,storeCells]
theorem RdS.readTo {S:World} {z n m:Nat} {u:Value} {cs:List Value} (h:RdS (heapOf S) z u n cs) (hm:m≤n):∃ vs,(Builtin.firstCells z m u).run P S=.ok vs S∧vs.toList=cs.take (m * z):=by
  rcases h with ⟨rfl,rfl,a,c,rfl⟩ | ⟨b,o,c,l,t,rfl,hn,hS,hl,rfl⟩
  · have:m=0:=by omega
    subst this
    cases a <;> exact ⟨#[],by simp [Builtin.firstCells,loadCells,loadCellsFrom],by simp⟩
  · have h1:m * z≤n * z:=Nat.mul_le_mul_right _ hm
    have h2:n * z≤c * z:=Nat.mul_le_mul_right _ hn
    refine ⟨_,run_loadCells (b:=b) (o:=o) ⟨t,hS⟩ (by omega),?_⟩
    rw [List.take_take,Nat.min_eq_left h1]
theorem h_copy {T T2 E z y n c k b o:Nat} {U:TypeId} {x xv:Operand} {u v:Value} {l ds:List Value} {B:HP} {N M':List HP} {K:Value→List HP→Prop} (hs:slOf P T=some (E,z,y)) (hA:At u b o n c) (hl:o+c * z≤l.length) (hB:Rd B z v k ds) (h1:ones (ds.take (Nat.min k n * z))=true)
    (hK:K (.int .i64 (Nat.min k n)) N) (hx:ev Γ x=some u:=by rfl) (hv:ev Γ xv=some v:=by rfl) (p2:Pick L B M':=by repeat first | exact .z | apply Pick.s) (hp:Put L (cl b U l) (cl b U (splice l o (ds.take (Nat.min k n * z)))) N:=by repeat first | exact .z | apply Put.s):HO P r g ⟨dst,.call ⟨.builtin .copy,#[x,xv],#[T,T2]⟩,t,pos,aft,gd⟩ Γ L K:=
  HO.run (by simp) fun a w ha hw=>by
    obtain ⟨a',rfl,hn,hx'⟩:=hA
    obtain ⟨R,p1,_⟩:=hp.picks
    have hr:=hw.rd p2 hB
    obtain ⟨w',hrun,a1,a2,a3,a4,a5,a6⟩:=run_copy (P:=P) (t:=t) (T2:=T2) (a:=a') (n:=n) (c:=c) (o:=o) (v:=v) hs (hx'.imp id (by omega)) hn hl (hw.get p1) (hr.read (P:=P)).1 (fun m hm=>hr.readTo hm) hr.len h1
    refine ⟨_,N,w',?_,hK,hw.set hp w' a1 a2 a3 a4 a5 a6⟩
    have hm:(#[x,xv]:Array Operand).map a.eval=#[.slice a' n c,v]:=by simp [ev_ok hx ha,ev_ok hv ha]
    show (do let d ← resolve a.eval ⟨.builtin .copy,#[x,xv],#[T,T2]⟩ t;invoke d.target d.args:Sem Next).run P w=_
    simp only [resolve,hm,Sem.run_bind,Sem.run_pure,Result.andThen_ok,invoke,builtin,hrun,goInt]
theorem ones_rep {zs:List Value} (h:ones zs=true):∀ n,ones (List.replicate n zs).flatten=true
  | 0=>rfl
  | n+1=>by rw [List.replicate_succ,List.flatten_cons];exact ones_append h (ones_rep h n)
theorem h_clear {T E z y n c b o:Nat} {U:TypeId} {x:Operand} {u:Value} {l zs:List Value} {N:List HP} {K:Value→List HP→Prop} (hs:slOf P T=some (E,z,y)) (hz:zeroOf P E=some zs) (hA:At u b o n c) (hl:o+c * z≤l.length)
    (hK:K (.tuple #[]) N) (hzz:zs.length=z:=by rfl) (h1:ones zs=true:=by rfl) (hx:ev Γ x=some u:=by rfl) (hp:Put L (cl b U l) (cl b U (splice l o (List.replicate n zs).flatten)) N:=by repeat first | exact .z | apply Put.s):HO P r g ⟨dst,.call ⟨.builtin .clear,#[x],#[T]⟩,t,pos,aft,gd⟩ Γ L K:=
  HO.run (by simp) fun a w ha hw=>by
    obtain ⟨a',rfl,hn,hx'⟩:=hA
    obtain ⟨R,p1,_⟩:=hp.picks
    obtain ⟨hu,hsz,_⟩:=slOf_und hs
    have hb:=hw.get p1
    unfold zeroOf at hz
    cases hzi:(P.info? E).bind (·.zero) with
    | none=>rw [hzi] at hz;cases hz
    | some zv=>
    rw [hzi] at hz
    simp at hz
    have hz':zv.cells=zs.toArray:=by rw [← hz]
    have hm:(#[x]:Array Operand).map a.eval=#[.slice a' n c]:=by simp [ev_ok hx ha]
    rcases Nat.eq_zero_or_pos n with rfl | h0
    · refine ⟨_,N,w,?_,hK,hw.set hp w rfl rfl rfl rfl (by simpa [splice] using hb) (fun _ _=>rfl)⟩
      show (do let d ← resolve a.eval ⟨.builtin .clear,#[x],#[T]⟩ t;invoke d.target d.args:Sem Next).run P w=_
      simp only [resolve,hm,Sem.run_bind,Sem.run_pure,Result.andThen_ok,invoke,builtin,Builtin.clear_]
      cases a' <;> simp [run_underlying hu]
    · have hx'':a'=some ⟨b,o,none⟩:=by rcases hx' with h | h <;> first | exact h | omega
      subst hx''
      have hle:n * z≤c * z:=Nat.mul_le_mul_right _ hn
      obtain ⟨w',hr,a1,a2,a3,a4,a5,a6⟩:=run_storeCells (P:=P) (T:=U) (b:=b) (List.replicate n zs).flatten 0 o l w hb (by simp [hzz];omega) (ones_ok (ones_rep h1 n))
      refine ⟨_,N,w',?_,hK,hw.set hp w' a1 a2 a3 a4 (by simpa using a5) a6⟩
      show (do let d ← resolve a.eval ⟨.builtin .clear,#[x],#[T]⟩ t;invoke d.target d.args:Sem Next).run P w=_
      obtain ⟨n',rfl⟩:∃ n',n=n'+1:=⟨n - 1,by omega⟩
      simp only [resolve,hm,Sem.run_bind,Sem.run_pure,Result.andThen_ok,invoke,builtin,Builtin.clear_]
      simp [run_underlying hu,run_zeroValue hzi,hz',zeroCells_eq,hr]
end
end Go.SL
namespace Go.SL
open Go
def eB (b:UInt8):List Value:=[.int .u8 b.toNat]
theorem eB_ok:EncOk 1 eB:=⟨fun _=>rfl,fun _=>rfl⟩
def bytesOf (s:ByteArray):List UInt8:=s.data.toList
def textOf (l:List UInt8):ByteArray:=⟨l.toArray⟩
section
variable {P : Program} {r : Option Nat} {g : World} {Γ : Env} {L M : List HP} {Q : Post} {dst : Option Tmp} {t : TypeId} {pos : String} {aft : Array Edge} {gd : Option (Nat × Bool)}
theorem eB_flat (l:List UInt8):l.flatMap eB=l.map fun b=>.int .u8 b.toNat:=by
  induction l with
  | nil=>rfl
  | cons b l ih=>rw [List.flatMap_cons,ih];rfl
theorem foldl_push:∀ (l:List UInt8) (s:ByteArray),(l.map fun b=>(b.toNat:Int)).foldl (fun r n=>r.push (UInt8.ofNat n.toNat)) s=⟨s.data++l.toArray⟩
  | [],s=>by simp
  | b::l,s=>by
    rw [List.map_cons,List.foldl_cons,foldl_push l]
    simp only [ByteArray.push]
    congr 1
    apply Array.ext';simp
theorem e_b2s {x:Operand} {s d e:TypeId} {u:Value} {A:HP} {xs:List UInt8} (hs:P.underlying s=some (.slice e)) (he:P.underlying e=some (.int .u8)) (hd:P.underlying d=some .string) (hA:RL A 1 eB u xs) (hx:ev Γ x=some u:=by rfl) (hp:Pick L A M:=by repeat first | exact .z | apply Pick.s) :
    EO P g ⟨dst,.convert s d x,t,pos,aft,gd⟩ Γ L (.string (textOf xs)):=
  .of (by simp) fun ρ hρ w hw=>by
    have hr:=hw.rd hp hA
    have hcv:(Conv.bytesToString u).run P w=.ok (.string (textOf xs)) w:=by
      have hread:=hr.read (P:=P)
      rcases hr with ⟨h1,h2,a,c,rfl⟩ | ⟨b,o,c,l,t,rfl,_⟩
      · have:xs=[]:=by simpa using h1
        subst this
        cases a with
        | none=>rfl
        | some a=>
          rw [run_bytesToString (ns:=[]) w a 0 c (by simp [loadCells,loadCellsFrom])];rfl
      · have h:=hread.2
        simp only [Builtin.firstCells,Nat.mul_one] at h
        rw [run_bytesToString (ns:=xs.map fun b=>(b.toNat:Int)) w _ _ _ (by rw [h,eB_flat];simp [Function.comp_def]),foldl_push]
        congr 2;simp [textOf]
    simp only [execOp,hρ x _ (by simp [Op.operands]) hx,convert,Sem.run_bind,run_underlying hs,run_underlying hd,run_underlying he,Result.andThen_ok]
    cases hu:u <;> rw [hu] at hcv <;> first | (simp [run_underlying he,hcv];done) | (rcases hr with ⟨_,_,a,c,e⟩ | ⟨b,o,c,l,t,e,_⟩ <;> rw [hu] at e <;> cases e)
section
variable {xt yt : TypeId} {x y : Operand}
theorem beq8 (a b:UInt8):((a.toNat:Int) == (b.toNat:Int))=(a == b):=by rw [Bool.eq_iff_iff];simp [← UInt8.toNat_inj];omega
theorem beq32 (a b:UInt32):((a.toNat:Int) == (b.toNat:Int))=(a == b):=by rw [Bool.eq_iff_iff];simp [← UInt32.toNat_inj];omega
theorem blt32 (a b:UInt32):decide ((a.toNat:Int) < (b.toNat:Int))=decide (a < b):=by rw [Bool.eq_iff_iff];simp [UInt32.lt_iff_toNat_lt]
theorem e_eql8 {a b:UInt8} (hx:ev Γ x=some (.int .u8 a.toNat):=by rfl) (hy:ev Γ y=some (.int .u8 b.toNat):=by rfl):EO P g ⟨dst,.binOp .eql xt x y yt,t,pos,aft,gd⟩ Γ L (.bool (a == b)):=beq8 a b ▸ e_eql hx hy
theorem e_neq8 {a b:UInt8} (hx:ev Γ x=some (.int .u8 a.toNat):=by rfl) (hy:ev Γ y=some (.int .u8 b.toNat):=by rfl):EO P g ⟨dst,.binOp .neq xt x y yt,t,pos,aft,gd⟩ Γ L (.bool (a != b)):=(show ((a.toNat:Int) != (b.toNat:Int))=(a != b) by simp only [bne,beq8]) ▸ e_neq hx hy
theorem e_eql32 {a b:UInt32} (hx:ev Γ x=some (.int .u32 a.toNat):=by rfl) (hy:ev Γ y=some (.int .u32 b.toNat):=by rfl):EO P g ⟨dst,.binOp .eql xt x y yt,t,pos,aft,gd⟩ Γ L (.bool (a == b)):=beq32 a b ▸ e_eql hx hy
theorem e_neq32 {a b:UInt32} (hx:ev Γ x=some (.int .u32 a.toNat):=by rfl) (hy:ev Γ y=some (.int .u32 b.toNat):=by rfl):EO P g ⟨dst,.binOp .neq xt x y yt,t,pos,aft,gd⟩ Γ L (.bool (a != b)):=(show ((a.toNat:Int) != (b.toNat:Int))=(a != b) by simp only [bne,beq32]) ▸ e_neq hx hy
theorem e_lss32 {a b:UInt32} (hx:ev Γ x=some (.int .u32 a.toNat):=by rfl) (hy:ev Γ y=some (.int .u32 b.toNat):=by rfl):EO P g ⟨dst,.binOp .lss xt x y yt,t,pos,aft,gd⟩ Γ L (.bool (decide (a < b))):=blt32 a b ▸ e_lss hx hy
theorem e_gtr32 {a b:UInt32} (hx:ev Γ x=some (.int .u32 a.toNat):=by rfl) (hy:ev Γ y=some (.int .u32 b.toNat):=by rfl):EO P g ⟨dst,.binOp .gtr xt x y yt,t,pos,aft,gd⟩ Γ L (.bool (decide (b < a))):=blt32 b a ▸ e_gtr hx hy
theorem wadd32 (a b:UInt32):IntKind.u32.wrap ((a.toNat:Int)+b.toNat)=(a+b).toNat:=by rw [UInt32.toNat_add];simp [IntKind.wrap,IntKind.bits,IntKind.signed]
theorem e_add32 {a b:UInt32} (hx:ev Γ x=some (.int .u32 a.toNat):=by rfl) (hy:ev Γ y=some (.int .u32 b.toNat):=by rfl):EO P g ⟨dst,.binOp .add xt x y yt,t,pos,aft,gd⟩ Γ L (.int .u32 (a+b).toNat):=e_add hx hy (wadd32 a b)
end
theorem wu8 (x:Nat):IntKind.u8.wrap (x:Int)=((UInt8.ofNat x).toNat:Nat):=by simp [IntKind.wrap,IntKind.bits,IntKind.signed]
theorem wu32 (x:Nat):IntKind.u32.wrap (x:Int)=((UInt32.ofNat x).toNat:Nat):=by simp [IntKind.wrap,IntKind.bits,IntKind.signed]
theorem e_c8 {x:Operand} {s d:TypeId} {j:IntKind} {a:Nat} (hs:(P.underlying s).isSome=true) (hd:P.underlying d=some (.int .u8)) (hx:ev Γ x=some (.int j a):=by rfl):EO P g ⟨dst,.convert s d x,t,pos,aft,gd⟩ Γ L (.int .u8 (UInt8.ofNat a).toNat):=e_conv hs hd hx (wu8 a)
theorem e_c32 {x:Operand} {s d:TypeId} {j:IntKind} {a:Nat} (hs:(P.underlying s).isSome=true) (hd:P.underlying d=some (.int .u32)) (hx:ev Γ x=some (.int j a):=by rfl):EO P g ⟨dst,.convert s d x,t,pos,aft,gd⟩ Γ L (.int .u32 (UInt32.ofNat a).toNat):=e_conv hs hd hx (wu32 a)
theorem e_shrN {x y:Operand} {xt yt:TypeId} {k k':IntKind} {a m:Nat} (h1:m≤k.bits) (hx:ev Γ x=some (.int k a):=by rfl) (hy:ev Γ y=some (.int k' m):=by rfl):EO P g ⟨dst,.binOp .shr xt x y yt,t,pos,aft,gd⟩ Γ L (.int k (a / 2 ^ m:Nat)):=
  e_shr hx hy (by omega) (by omega) (by simp)
theorem nil_own {E z:Nat} {a:Option Addr} {S:Piece} (h:stars L S):stars (Own E z (.slice a 0 0) 0 []::L) S:=⟨fun _=>none,S,fun _=>.inl rfl,(fun _ _ h=>by cases h),le_refl _,.inl ⟨rfl,rfl,a,rfl⟩,h⟩
theorem nil_sl {α:Type} {E z:Nat} {enc:α→List Value} {a:Option Addr} {S:Piece} (h:stars L S):stars (Sl E z enc (.slice a 0 0) []::L) S:=nil_own h
theorem WL.nils {α:Type} {ops rest:List Oper} (E z:Nat) (enc:α→List Value) (a:Option Addr) (h:WL P r g ops rest Q Γ (Sl E z enc (.slice a 0 0) []::L)):WL P r g ops rest Q Γ L:=WL.conv (fun _=>nil_sl) h
theorem WP.nils {α:Type} {c:Code} (E z:Nat) (enc:α→List Value) (a:Option Addr) (h:WP P r g c Q Γ (Sl E z enc (.slice a 0 0) []::L)):WP P r g c Q Γ L:=WP.conv (fun _=>nil_sl) h
theorem PO.conv {e:Exit} (hc:∀ S,stars L S→stars M S) (h:PO g Q e Γ M):PO g Q e Γ L:=fun a w ha hw=>h a w ha (hw.conv hc)
theorem PO.nils {α:Type} {e:Exit} (E z:Nat) (enc:α→List Value) (a:Option Addr) (h:PO g Q e Γ (Sl E z enc (.slice a 0 0) []::L)):PO g Q e Γ L:=PO.conv (fun _=>nil_sl) h
theorem WL.sh {ops rest:List Oper} {E z n:Nat} {u:Value} {cs:List Value} (k:∀ a m c,u=.slice a m c→WL P r g ops rest Q Γ L) (hp:Pick L (Own E z u n cs) M:=by repeat first | exact .z | apply Pick.s):WL P r g ops rest Q Γ L:=fun a w ha hw=>by
  obtain ⟨S1,S2,_,_,_,h1,_⟩:=hp.to hw.heap
  obtain ⟨b,m,c,e⟩:=own_shape h1
  exact k b m c e a w ha hw
theorem WP.sh {c:Code} {E z n:Nat} {u:Value} {cs:List Value} (k:∀ a m c',u=.slice a m c'→WP P r g c Q Γ L) (hp:Pick L (Own E z u n cs) M:=by repeat first | exact .z | apply Pick.s):WP P r g c Q Γ L:=fun a w ha hw=>by
  obtain ⟨S1,S2,_,_,_,h1,_⟩:=hp.to hw.heap
  obtain ⟨b,m,c,e⟩:=own_shape h1
  exact k b m c e a w ha hw
theorem PO.sh {e:Exit} {E z n:Nat} {u:Value} {cs:List Value} (k:∀ a m c',u=.slice a m c'→PO g Q e Γ L) (hp:Pick L (Own E z u n cs) M:=by repeat first | exact .z | apply Pick.s):PO g Q e Γ L:=fun a w ha hw=>by
  obtain ⟨S1,S2,_,_,_,h1,_⟩:=hp.to hw.heap
  obtain ⟨b,m,c,e⟩:=own_shape h1
  exact k b m c e a w ha hw
theorem HO.conv {o:Oper} {K:Value→List HP→Prop} (hc:∀ S,stars L S→stars M S) (h:HO P r g o Γ M K):HO P r g o Γ L K:=fun a w Q next ha hw hn=>h a w Q next ha (hw.conv hc) hn
theorem h_grow0 {T T2 E z y n c k b o:Nat} {U:TypeId} {q j:IntKind} {x xv:Operand} {u:Value} {l zs:List Value} {R:List HP} {K:Value→List HP→Prop} (hs:slOf P T=some (E,z,y)) (h2:P.underlying T2=some (.int q)) (hz:zeroOf P E=some zs) (hzz:zs.length=z)
    (hA:At u b o n c) (hl:o+c * z≤l.length) (hnk:c < n+k) (hb:n+k≤68719476736) (hz0:0 < z) (hy:y≤512) (hK:∀ u',K u' (Own E z u' (n+k) ((l.drop o).take (n * z)++(List.replicate k zs).flatten)::L)) (hx:ev Γ x=some u:=by rfl) (hv:ev Γ xv=some (.int j k):=by rfl)
    (p1:Pick L (cl b U l) R:=by repeat first | exact .z | apply Pick.s):HO P r g ⟨dst,.call ⟨.builtin .append,#[x,xv],#[T,T2]⟩,t,pos,aft,gd⟩ Γ L K:=
  HO.run (by simp) fun a w ha hw=>by
    obtain ⟨hu,hsz,inf,hinf,rfl,rfl⟩:=slOf_und hs
    have hrd:=hw.rd p1 (hA.rd (T:=U) hl)
    obtain ⟨a',rfl,hn,_⟩:=hA
    unfold zeroOf at hz
    cases hzi:(P.info? E).bind (·.zero) with
    | none=>rw [hzi] at hz;cases hz
    | some zv=>
    rw [hzi] at hz
    simp at hz
    have hz':zv.cells=zs.toArray:=by rw [← hz]
    have hnext:=nextcap_le hnk
    have hmul:Builtin.nextslicecap (n+k) c * inf.bytes≤(2 * (n+k)+192) * 512:=Nat.mul_le_mul hnext hy
    let qq:Question:=.appendCap (n+k) c E
    let nc:=qq.cut (w.tape w.drawn qq)
    have hnc2:nc=n+k+(w.tape w.drawn qq) % (2 ^ 63 - (n+k)):=rfl
    have hlt:(w.tape w.drawn qq) % (2 ^ 63 - (n+k)) < 2 ^ 63 - (n+k):=Nat.mod_lt _ (by omega)
    obtain ⟨cs,hcs⟩:∃ cs,(l.drop o).take (n * inf.size)=cs:=⟨_,rfl⟩
    obtain ⟨ds,hds⟩:∃ ds,(List.replicate k zs).flatten=ds:=⟨_,rfl⟩
    rw [hcs] at hrd hK;rw [hds] at hK
    let row:=(cs++ds++(Builtin.zeroCells zs.toArray (nc - (n+k))).toList)
    have hcl:cs.length=n * inf.size:=hrd.len
    have hdl:ds.length=k * inf.size:=by rw [← hds];simp [hzz]
    have hm:(#[x,xv]:Array Operand).map a.eval=#[.slice a' n c,.int j k]:=by simp [ev_ok hx ha,ev_ok hv ha]
    refine ⟨.slice (some ⟨w.heap.size,0,none⟩) (n+k) nc,_,w.drew.alloc (.cells row.toArray E (0,0)),?_,hK _,?_⟩
    · show (do let d ← resolve a.eval ⟨.builtin .append,#[x,xv],#[T,T2]⟩ t;invoke d.target d.args:Sem Next).run P w=_
      simp only [resolve,hm,Sem.run_bind,Sem.run_pure,Result.andThen_ok,invoke,builtin]
      simp only [Builtin.append_,List.getElem?_toArray,List.getElem?_cons_zero,List.getElem?_cons_succ,Sem.run_bind,run_underlying hu,Result.andThen_ok,run_sizeOf hsz,run_underlying h2]
      have e0:IntKind.i64.wrap (k:Int)=k:=IntWalk.i64_in _ (by omega)
      have e1:¬ (9223372036854775807 < (n:Int)+k):=by omega
      have e2:¬ 2 ^ 48 < Builtin.nextslicecap (n+k) c * inf.bytes:=by omega
      have hcs':(Builtin.firstCells inf.size n (.slice a' n c)).run P w.drew=.ok cs.toArray w.drew:=by
        have:RdS (heapOf w.drew) inf.size (.slice a' n c) n cs:=hrd
        exact (this.read (P:=P)).2
      have e3:¬ n+k≤c:=by omega
      have e4:¬ (k:Int) < 0:=by omega
      have hkm:inf.bytes * k≤512 * 68719476736:=Nat.mul_le_mul hy (by omega)
      have e5:¬ ((281474976710656:Int) < (k:Int) * inf.bytes):=by
        have h5:((inf.bytes * k:Nat):Int)≤35184372088832:=by omega
        rw [Int.natCast_mul,Int.mul_comm] at h5;omega
      have hz2:(Builtin.zeroCells zs.toArray k).toList=ds:=by rw [← hds];exact zeroCells_eq
      by_cases h0:k * inf.size=0
      · have hk0:k=0:=by rcases Nat.mul_eq_zero.1 h0 with h | h <;> omega
        omega
      · simp [asInt,asIntOf,e0,e1,e2,e3,e4,e5,h0,run_typeInfo hinf,Question.forced,hcs',run_zeroValue hzi,newRow,hz',row,nc,qq]
        congr 2;apply Array.ext';simp [hz2]
    · have h:=(hw.draw (w.drawn+1))
      have h':=h.push (.cells row.toArray E (0,0))
      obtain ⟨T1,T2',hd',m1,m2,hA1,hA2⟩:=h'.heap
      refine ⟨h'.os,h'.tape,h'.output,h'.size,T1,T2',hd',m1,m2,.inr ⟨w.heap.size,0,nc,row,rfl,by omega,by omega,hA1,?_,?_⟩,hA2⟩
      · simp only [row,List.length_append,Array.length_toList,mod_arr_len,List.size_toArray,hcl,hdl,hzz]
        rw [Nat.zero_add,← Nat.add_mul,← Nat.add_mul]
        exact Nat.mul_le_mul_right _ (by omega)
      · rw [List.drop_zero]
        simp only [row]
        rw [List.take_append_of_le_length (by simp [hcl,hdl,Nat.add_mul]),List.take_of_length_le (by simp [hcl,hdl,Nat.add_mul])]
theorem h_grow {T T2 E z y n c k b o:Nat} {U:TypeId} {q j:IntKind} {x xv:Operand} {u:Value} {l zs:List Value} {R:List HP} {K:Value→List HP→Prop} (hs:slOf P T=some (E,z,y)) (h2:P.underlying T2=some (.int q)) (hz:zeroOf P E=some zs) (hzz:zs.length=z)
    (hA:At u b o n c) (hl:o+c * z≤l.length) (hnk:c < n+k) (hb:n+k≤68719476736) (hz0:0 < z) (hy:y≤512) (hK:∀ a m c,K (.slice a m c) (Own E z (.slice a m c) (n+k) ((l.drop o).take (n * z)++(List.replicate k zs).flatten)::L)) (hx:ev Γ x=some u:=by rfl) (hv:ev Γ xv=some (.int j k):=by rfl)
    (p1:Pick L (cl b U l) R:=by repeat first | exact .z | apply Pick.s):HO P r g ⟨dst,.call ⟨.builtin .append,#[x,xv],#[T,T2]⟩,t,pos,aft,gd⟩ Γ L K:=
  HO.shape (fun _ h0=>h_grow0 hs h2 hz hzz hA hl hnk hb hz0 hy h0 hx hv p1) hK
theorem h_overlaps {f:FuncId} {fn:Func} {tS tR E z y n1 c1 n2 c2 o1 b1 b2:Nat} {U:TypeId} {x1 x2:Operand} {ts:Array TypeId} {u1 u2:Value} {l1 l2:List Value} {R N:List HP} {K:Value→List HP→Prop} (hf:P.funcs[f]?=some fn) (h1:(fn.name == "runtime.NumGoroutine")=false) (h2:fn.body.isNone=true) (h3:Extern.findNext fn=none)
    (h4:Extern.find fn=some (Extern.SlicesOverlaps.overlaps #[tS,tS] #[tR])) (hs:slOf P tS=some (E,z,y)) (hA1:u1=.slice (some ⟨b1,o1,none⟩) n1 c1) (hA2:∃ o2,u2=.slice (some ⟨b2,o2,none⟩) n2 c2) (p1:Pick L (cl b1 U l1) R) (p2:Pick R (cl b2 U l2) N) (hl2:0 < l2.length) (hK:K (.bool false) L)
    (hx1:ev Γ x1=some u1:=by rfl) (hx2:ev Γ x2=some u2:=by rfl):HO P r g ⟨dst,.call ⟨.value (.func f),#[x1,x2],ts⟩,t,pos,aft,gd⟩ Γ L K:=
  HO.run (by simp) fun a w ha hw=>by
    subst hA1
    obtain ⟨o2,rfl⟩:=hA2
    refine ⟨.bool false,L,w,?_,hK,hw⟩
    have hm:(#[x1,x2]:Array Operand).map a.eval=#[.slice (some ⟨b1,o1,none⟩) n1 c1,.slice (some ⟨b2,o2,none⟩) n2 c2]:=by simp [ev_ok hx1 ha,ev_ok hx2 ha]
    have hne:b1≠b2:=pick_ne p1 p2 _ hw.heap
    have hb1:=hw.get p1
    have hb2:w.heap[b2]?=some (.cells l2.toArray U (0,0)):=by
      obtain ⟨S1,S2,hd,m1,m2,h5,h6⟩:=p1.to hw.heap
      obtain ⟨S3,S4,_,m3,_,h7,_⟩:=p2.to h6
      exact m2 _ _ (m3 _ _ h7)
    have hsz:=(slOf_und hs).2.1
    have hov:=Lib.run_overlaps_apart w tS tR E (slOf_und hs).1 z (fun w=>run_sizeOf hsz w) ⟨b1,o1,none⟩ ⟨b2,o2,none⟩ n1 c1 n2 c2 hne U U l1.length l2.length (by simp [World.shape?,hb1]) (by simp [World.shape?,hb2]) (by omega) (by simp [World.frozen?,hb1]) (by simp [World.frozen?,hb1])
    show (do let d ← resolve a.eval ⟨.value (.func f),#[x1,x2],ts⟩ t;invoke d.target d.args:Sem Next).run P w=_
    simp only [resolve,hm,Act.eval,Deferred.ofValue,Sem.run_bind,Sem.run_pure,Result.andThen_ok,invoke,Array.append_empty,Array.empty_append]
    rw [run_callFunc_extern hf h1 h2 h3 h4,hov];rfl
end
end Go.SL
namespace Go.SL
open Go
structure SpanM where
  a:ByteArray
  b:ByteArray
structure OpM where
  kind:UInt8
  key:ByteArray
  to:ByteArray
  val:UInt32
structure RowM where
  key:ByteArray
  val:UInt32
structure ChgM where
  key:ByteArray
  val:UInt32
  gone:Bool
def SpanM.c (s:SpanM):List Value:=[.string s.a,.string s.b]
def OpM.c (x:OpM):List Value:=[.int .u8 x.kind.toNat,.string x.key,.string x.to,.int .u32 x.val.toNat]
def RowM.c (x:RowM):List Value:=[.string x.key,.int .u32 x.val.toNat]
def ChgM.c (x:ChgM):List Value:=[.string x.key,.int .u32 x.val.toNat,.bool x.gone]
def SpanM.v (s:SpanM):Value:=.agg #[.string s.a,.string s.b]
def OpM.v (x:OpM):Value:=.agg #[.int .u8 x.kind.toNat,.string x.key,.string x.to,.int .u32 x.val.toNat]
def RowM.v (x:RowM):Value:=.agg #[.string x.key,.int .u32 x.val.toNat]
def ChgM.v (x:ChgM):Value:=.agg #[.string x.key,.int .u32 x.val.toNat,.bool x.gone]
theorem opE:EncOk 4 OpM.c:=⟨fun _=>rfl,fun _=>rfl⟩
theorem rowE:EncOk 2 RowM.c:=⟨fun _=>rfl,fun _=>rfl⟩
def sIn (k a b:ByteArray):Bool:=(sLt a k || sEq a k) && (sLt k b || sEq k b)
def spanOf (x:OpM):SpanM:=⟨x.key,if x.kind=4 then x.to else x.key⟩
def meet (a b:SpanM):Bool:=sIn (sMax a.a b.a) a.a a.b && sIn (sMax a.a b.a) b.a b.b
def one (k:ByteArray):SpanM:=⟨k,k⟩
def writes (x:OpM):Bool:=x.kind == 2 || x.kind == 3
def allFrom (p:Int→Bool) (s:ByteArray):Nat→Nat→Bool
  | 0,_=>true
  | k+1,i=>if i < s.size then p (Utf8.decode s i).1 && allFrom p s k (i+(Utf8.decode s i).2) else true
def allR (p:Int→Bool) (s:ByteArray):Bool:=allFrom p s s.size 0
def keyRune (c:Int):Bool:=(decide (c≥97) && decide (c≤122)) || (decide (c≥48) && decide (c≤57)) || c == 95
def keyOk (s:ByteArray):Bool:=!(sEq s ⟨#[]⟩) && decide ((s.size:Int)≤16) && allR keyRune s
def opOk (x:OpM):Bool:=decide ((x.kind.toNat:Int)≥1) && decide ((x.kind.toNat:Int)≤4) && keyOk x.key && (if x.kind=4 then keyOk x.to else sEq x.to ⟨#[]⟩) && (x.val == 0 || x.kind == 2)
def chgOk (c:ChgM):Bool:=keyOk c.key && (!c.gone || c.val == 0)
theorem take_snoc {α:Type} {l:List α} {x:Nat} {c:α} (hc:l[x]?=some c):l.take (x+1)=l.take x++[c]:=by rw [List.take_add_one,hc];rfl
theorem width_pos (s:ByteArray) (pos:Nat) (h:pos < s.size):1≤(Utf8.decode s pos).2:=by
  by_cases ha:(s[pos]'h).toNat < 128
  · rw [decode_ascii s pos h ha];exact Nat.le_refl _
  · exact (decode_high s pos h (by omega)).2
end Go.SL

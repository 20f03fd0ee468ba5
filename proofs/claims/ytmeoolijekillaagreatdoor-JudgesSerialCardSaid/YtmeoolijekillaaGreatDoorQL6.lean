import Derived.RangeFuncIn
import Derived.RangeFuncLeaves
import Derived.TacticsIn
import Derived.OrdersIn
import Derived.Laws.Sem
import Derived.Sort.LoopGhostIn
import Derived.Laws.Entries
import Derived.Laws.World
set_option linter.unusedSimpArgs false
set_option linter.unusedVariables false
set_option linter.unusedSectionVars false
namespace Go.SL
open Go
abbrev Piece:=Nat→Option Obj
abbrev HP:=Piece→Prop
def le (S T:Piece):Prop:=∀ b o,S b=some o→T b=some o
def disj (S T:Piece):Prop:=∀ b,S b=none∨T b=none
def joinP (S T:Piece):Piece:=fun b=>(S b).or (T b)
theorem le_refl (S:Piece):le S S:=fun _ _ h=>h
theorem le_trans {S T U:Piece} (h:le S T) (h':le T U):le S U:=fun b o x=>h' b o (h b o x)
theorem le_joinL (S T:Piece):le S (joinP S T):=fun b o h=>by simp [joinP,h]
theorem le_joinR {S T:Piece} (hd:disj S T):le T (joinP S T):=fun b o h=>by
  rcases hd b with h0 | h0
  · simp [joinP,h0,h]
  · rw [h0] at h;cases h
theorem join_le {S T U:Piece} (h:le S U) (h':le T U):le (joinP S T) U:=fun b o x=>by
  unfold joinP at x
  cases hs:S b with
  | none=>rw [hs] at x;exact h' b o (by simpa using x)
  | some y=>rw [hs] at x;simp at x;subst x;exact h b y hs
theorem disj_symm {S T:Piece} (h:disj S T):disj T S:=fun b=>(h b).symm
theorem disj_le {S T U:Piece} (h:disj S T) (hl:le U T):disj S U:=fun b=>by
  rcases h b with h0 | h0
  · exact .inl h0
  · right;cases hu:U b with
    | none=>rfl
    | some y=>rw [hl b y hu] at h0;cases h0
theorem disj_join {S T U:Piece} (h:disj S T) (h':disj S U):disj S (joinP T U):=fun b=>by
  rcases h b with h0 | h0
  · exact .inl h0
  · rcases h' b with h1 | h1
    · exact .inl h1
    · right;simp [joinP,h0,h1]
def star (A B:HP):HP:=fun S=>∃ S1 S2,disj S1 S2∧le S1 S∧le S2 S∧A S1∧B S2
def stars:List HP→HP
  | []=>fun _=>True
  | A::L=>star A (stars L)
def pt (b:Nat) (o:Obj):HP:=fun S=>S b=some o
def pu (φ:Prop):HP:=fun _=>φ
def cl (b:Nat) (t:TypeId) (l:List Value):HP:=pt b (.cells l.toArray t (0,0))
theorem stars_le {L:List HP} {S T:Piece} (h:stars L S) (hl:le S T):stars L T:=by
  cases L with
  | nil=>trivial
  | cons A L=>obtain ⟨S1,S2,a,b,c,d,e⟩:=h;exact ⟨S1,S2,a,le_trans b hl,le_trans c hl,d,e⟩
theorem stars_swap {A B:HP} {L:List HP} {S:Piece} (h:stars (A::B::L) S):stars (B::A::L) S:=by
  obtain ⟨S1,S',hd,h1,h2,hA,S2,S3,hd',h3,h4,hB,hL⟩:=h
  refine ⟨S2,joinP S1 S3,?_,le_trans h3 h2,join_le h1 (le_trans h4 h2),hB,S1,S3,disj_le hd h4,le_joinL _ _,le_joinR (disj_le hd h4),hA,hL⟩
  exact disj_join (disj_symm (disj_le hd h3)) hd'
theorem stars_cons {A:HP} {L L':List HP} (h:∀ S,stars L S→stars L' S) {S:Piece} (hs:stars (A::L) S):stars (A::L') S:=by
  obtain ⟨S1,S2,a,b,c,d,e⟩:=hs;exact ⟨S1,S2,a,b,c,d,h _ e⟩
theorem stars_tail {A:HP} {L:List HP} {S:Piece} (h:stars (A::L) S):stars L S:=by
  obtain ⟨S1,S2,_,_,c,_,e⟩:=h;exact stars_le e c
theorem stars_append {L M:List HP} {S:Piece} (h:stars (L++M) S):star (stars L) (stars M) S:=by
  induction L generalizing S with
  | nil=>exact ⟨fun _=>none,S,fun _=>.inl rfl,(fun _ _ h=>by cases h),le_refl _,trivial,h⟩
  | cons A L ih=>
    obtain ⟨S1,S',hd,h1,h2,hA,hr⟩:=h
    obtain ⟨S2,S3,hd',h3,h4,hL,hM⟩:=ih hr
    exact ⟨joinP S1 S2,S3,disj_symm (disj_join (disj_symm (disj_le hd h4)) (disj_symm hd')),join_le h1 (le_trans h3 h2),le_trans h4 h2,
      ⟨S1,S2,disj_le hd h3,le_joinL _ _,le_joinR (disj_le hd h3),hA,hL⟩,hM⟩
theorem stars_append' {L M:List HP} {S:Piece} (h:star (stars L) (stars M) S):stars (L++M) S:=by
  induction L generalizing S with
  | nil=>obtain ⟨S1,S2,_,_,c,_,e⟩:=h;exact stars_le e c
  | cons A L ih=>
    obtain ⟨S12,S3,hd,h1,h2,⟨S1,S2,hd',h3,h4,hA,hL⟩,hM⟩:=h
    exact ⟨S1,joinP S2 S3,disj_join hd' (disj_symm (disj_le (disj_symm hd) h3)),le_trans h3 h1,join_le (le_trans h4 h1) h2,hA,
      ih ⟨S2,S3,disj_symm (disj_le (disj_symm hd) h4),le_joinL _ _,le_joinR (disj_symm (disj_le (disj_symm hd) h4)),hL,hM⟩⟩
inductive Pick:List HP→HP→List HP→Prop
  | z {A:HP} {L:List HP}:Pick (A::L) A L
  | s {A B:HP} {L M:List HP}:Pick L A M→Pick (B::L) A (B::M)
theorem Pick.to {L M:List HP} {A:HP} (h:Pick L A M):∀ {S:Piece},stars L S→stars (A::M) S:=by
  induction h with
  | z=>exact id
  | s _ ih=>exact fun hs=>stars_swap (stars_cons (fun _=>ih) hs)
theorem Pick.back {L M:List HP} {A:HP} (h:Pick L A M):∀ {S:Piece},stars (A::M) S→stars L S:=by
  induction h with
  | z=>exact id
  | s _ ih=>exact fun hs=>stars_cons (fun _=>ih) (stars_swap hs)
inductive Put:List HP→HP→HP→List HP→Prop
  | z {A B:HP} {L:List HP}:Put (A::L) A B (B::L)
  | s {A B C:HP} {L M:List HP}:Put L A B M→Put (C::L) A B (C::M)
theorem Put.picks {L M:List HP} {A B:HP} (h:Put L A B M):∃ R,Pick L A R∧Pick M B R:=by
  induction h with
  | z=>exact ⟨_,.z,.z⟩
  | s _ ih=>obtain ⟨R,a,b⟩:=ih;exact ⟨_,.s a,.s b⟩
inductive Split:List HP→List HP→List HP→Prop
  | nil {L:List HP}:Split L [] L
  | cons {L L' M R:List HP} {A:HP}:Pick L A L'→Split L' M R→Split L (A::M) R
theorem Split.to {L M R:List HP} (h:Split L M R):∀ {S:Piece},stars L S→stars (M++R) S:=by
  induction h with
  | nil=>exact id
  | cons hp _ ih=>exact fun hs=>stars_cons (fun _=>ih) (hp.to hs)
theorem Split.drop {L M R:List HP} (h:Split L M R) {S:Piece} (hs:stars L S):stars M S:=by
  obtain ⟨S1,S2,_,b,_,d,_⟩:=stars_append (h.to hs)
  exact stars_le d b
inductive Sub:List HP→List HP→Prop
  | refl {L:List HP}:Sub L L
  | drop {L M:List HP} {A:HP}:Sub L M→Sub (A::L) M
  | cons {L L' M:List HP} {A:HP}:Pick L A L'→Sub L' M→Sub L (A::M)
theorem Sub.to {L M:List HP} (h:Sub L M):∀ {S:Piece},stars L S→stars M S:=by
  induction h with
  | refl=>exact id
  | drop _ ih=>exact fun hs=>ih (stars_tail hs)
  | cons hp _ ih=>exact fun hs=>stars_cons (fun _=>ih) (hp.to hs)
def heapOf (w:World):Piece:=fun b=>w.heap[b]?
structure Sat (g:World) (L:List HP) (w:World):Prop where
  os:w.os=g.os
  tape:w.tape=g.tape
  output:w.output=g.output
  size:g.heap.size≤w.heap.size
  heap:stars L (heapOf w)
theorem Sat.conv {g w:World} {L M:List HP} (h:Sat g L w) (hc:∀ S,stars L S→stars M S):Sat g M w:=⟨h.os,h.tape,h.output,h.size,hc _ h.heap⟩
theorem Sat.get {g w:World} {L M:List HP} {b:Nat} {o:Obj} (h:Sat g L w) (hp:Pick L (pt b o) M):w.heap[b]?=some o:=by
  obtain ⟨S1,S2,_,h1,_,hA,_⟩:=hp.to h.heap
  exact h1 _ _ hA
theorem Sat.draw {g w:World} {L:List HP} (h:Sat g L w) (n:Nat):Sat g L { w with drawn:=n }:=⟨h.os,h.tape,h.output,h.size,h.heap⟩
theorem Sat.set {g w:World} {L M:List HP} {b:Nat} {o o':Obj} (h:Sat g L w) (hp:Put L (pt b o) (pt b o') M) (w':World) (he:w'.os=w.os) (ht:w'.tape=w.tape) (hu:w'.output=w.output)
    (hs:w'.heap.size=w.heap.size) (hb:w'.heap[b]?=some o') (hr:∀ i,i≠b→w'.heap[i]?=w.heap[i]?):Sat g M w':=by
  obtain ⟨R,p1,p2⟩:=hp.picks
  refine ⟨he.trans h.os,ht.trans h.tape,hu.trans h.output,hs ▸ h.size,p2.back ?_⟩
  obtain ⟨S1,S2,hd,h1,h2,hA,hR⟩:=p1.to h.heap
  have hS2:S2 b=none:=by
    rcases hd b with h0 | h0
    · rw [show S1 b=some o from hA] at h0;cases h0
    · exact h0
  refine ⟨fun i=>if i=b then some o' else none,S2,fun i=>?_,fun i x hx=>?_,fun i x hx=>?_,by simp [pt],hR⟩
  · by_cases hi:i=b
    · subst hi;exact .inr hS2
    · left;simp [hi]
  · by_cases hi:i=b
    · subst hi;simp at hx;subst hx;exact hb
    · simp [hi] at hx
  · have hi:i≠b:=fun e=>by subst e;rw [hS2] at hx;cases hx
    show w'.heap[i]?=some x
    rw [hr i hi];exact h2 i x hx
theorem heapOf_push_le (w:World) (o:Obj):le (heapOf w) (heapOf { w with heap:=w.heap.push o }):=fun b x hx=>by
  have hb:b < w.heap.size:=by
    rcases Nat.lt_or_ge b w.heap.size with h' | h'
    · exact h'
    · simp [heapOf,Array.getElem?_eq_none h'] at hx
  show (w.heap.push o)[b]?=some x
  rw [Array.getElem?_push_lt hb]
  simpa [heapOf,Array.getElem?_eq_getElem hb] using hx
theorem Sat.push {g w:World} {L:List HP} (h:Sat g L w) (o:Obj):Sat g (pt w.heap.size o::L) { w with heap:=w.heap.push o }:=by
  refine ⟨h.os,h.tape,h.output,by have:=h.size;simp;omega,?_⟩
  refine ⟨fun i=>if i=w.heap.size then some o else none,heapOf w,fun i=>?_,fun i x hx=>?_,heapOf_push_le w o,by simp [pt],h.heap⟩
  · by_cases hi:i=w.heap.size
    · right;subst hi;simp [heapOf]
    · left;simp [hi]
  · by_cases hi:i=w.heap.size
    · subst hi;simp at hx;subst hx;simp [heapOf]
    · simp [hi] at hx
def look:List (Nat × Value)→Nat→Option Value
  | [],_=>none
  | (i,v)::l,j=>match Nat.beq i j with
    | true=>some v
    | false=>look l j
structure Env where
  n:Nat
  D:List Deferred
  l:List (Nat × Value)
structure Env.ok (Γ:Env) (a:Act):Prop where
  size:a.tmps.size=Γ.n
  defers:a.defers=Γ.D
  at_:∀ i v,look Γ.l i=some v→a.tmps[i]?=some v
def ev (Γ:Env):Operand→Option Value
  | .tmp t=>look Γ.l t
  | .const v=>some v
  | .global g=>some (.pointer (some ⟨g,0,none⟩))
  | .func f=>some (.func (.func f) #[] #[])
theorem ev_ok {Γ:Env} {a:Act} {x:Operand} {v:Value} (h:ev Γ x=some v) (ha:Γ.ok a):a.eval x=v:=by
  cases x with
  | tmp t=>have:=ha.at_ t v h;simp [Act.eval,this]
  | const u=>simpa [ev,Act.eval] using h
  | global g=>simpa [ev,Act.eval] using h
  | func f=>simpa [ev,Act.eval] using h
theorem beq_no {i j:Nat} (e:i≠j):Nat.beq i j=false:=by
  cases h:Nat.beq i j with
  | false=>rfl
  | true=>exact absurd (Nat.eq_of_beq_eq_true h) e
theorem ne_of_beq_no {i j:Nat} (h:Nat.beq i j=false):i≠j:=fun e=>by subst e;simp at h
theorem Env.ok_put {n d:Nat} {D:List Deferred} {l:List (Nat × Value)} {a:Act} (v:Value) (ha:Env.ok ⟨n,D,l⟩ a) (hlt:d < n):Env.ok ⟨n,D,(d,v)::l⟩ (a.put (some d) v):=by
  refine ⟨by simpa [Act.put] using ha.size,ha.defers,fun i u hi=>?_⟩
  simp only [look] at hi
  by_cases e:d=i
  · subst e
    simp at hi;subst hi
    have:a.tmps.size=n:=ha.size
    simp [Act.put,this,hlt]
  · rw [beq_no e] at hi
    simp only [Act.put]
    rw [Array.getElem?_setIfInBounds_ne e]
    exact ha.at_ i u hi
def EnvSub (l m:List (Nat × Value)):Prop:=∀ i v,look l i=some v→look m i=some v
theorem EnvSub.nil {m:List (Nat × Value)}:EnvSub [] m:=fun _ _ h=>by cases h
theorem EnvSub.cons {l m:List (Nat × Value)} {i:Nat} {v:Value} (h:look m i=some v) (hs:EnvSub l m):EnvSub ((i,v)::l) m:=fun j u hj=>by
  simp only [look] at hj
  by_cases e:i=j
  · subst e;simp at hj;subst hj;exact h
  · rw [beq_no e] at hj;exact hs j u hj
theorem EnvSub.keep {l m:List (Nat × Value)} (h:m=l):EnvSub l m:=h ▸ fun _ _ h=>h
theorem Env.ok_sub {n:Nat} {D:List Deferred} {l m:List (Nat × Value)} {a:Act} (ha:Env.ok ⟨n,D,m⟩ a) (h:EnvSub l m):Env.ok ⟨n,D,l⟩ a:=⟨ha.size,ha.defers,fun i v hi=>ha.at_ i v (h i v hi)⟩
def FR (r:Option Nat):Fence:={ Fence.wide with round:=r }
theorem depth_FR (r:Option Nat) (n:Nat):(FR r).depth.isSome=true→1≤n:=fun h=>by simp [FR,Fence.wide] at h
abbrev Post:=Exit→Act→World→Prop
section
variable (P : Program) (r : Option Nat) (g : World)
def WP (c:Code) (Q:Post) (Γ:Env) (L:List HP):Prop:=∀ a w,Γ.ok a→Sat g L w→c.wpIn (FR r) 0 P Q a w
def WL (ops:List Oper) (rest:List Oper) (Q:Post) (Γ:Env) (L:List HP):Prop:=∀ a w,Γ.ok a→Sat g L w→wpListIn (FR r) 0 P ops.toArray Q rest a w
def PO (Q:Post) (e:Exit) (Γ:Env) (L:List HP):Prop:=∀ a w,Γ.ok a→Sat g L w→Q e a w
def Then (y:Code) (Q:Post):Post:=Exit.then (y.wpIn (FR r) 0 P Q) Q
def EO (o:Oper) (Γ:Env) (L:List HP) (v:Value):Prop:=∀ ρ w,(∀ x u,x ∈ o.op.operands→ev Γ x=some u→ρ x=u)→Sat g L w→(execOp ρ o).run P w=.ok (.value v) w∧∀ c,o.op≠.defer c
def HO (o:Oper) (Γ:Env) (L:List HP) (K:Value→List HP→Prop):Prop:=∀ a w (Q:Post) (next:Act→World→Prop),Γ.ok a→Sat g L w →
  (∀ v L' w',K v L'→Sat g L' w'→next (a.put o.dst v) w')→o.wpIn (FR r) 0 P a w next Q
end
section
variable {P : Program} {r : Option Nat} {g : World} {Γ : Env} {L : List HP} {Q : Post}
theorem about_FR {o:Oper} {a:Act} {w:World}:∀ f,o.about P w a.eval=some f→(FR r).fn f:=fun _ _=>trivial
theorem WP.seq {x y:Code} (h:WP P r g x (Then P r y Q) Γ L):WP P r g (.seq x y) Q Γ L:=fun a w ha hw=>wpIn_seq (h a w ha hw)
theorem WP.reg {id:Nat} {l:List Oper} (h:WL P r g l l Q Γ L):WP P r g (.region id l.toArray false) Q Γ L:=fun a w ha hw=>wpIn_region_lit (h a w ha hw)
theorem WP.skip (h:PO g Q .normal Γ L):WP P r g .skip Q Γ L:=fun a w ha hw=>wpIn_skip (h a w ha hw)
theorem WP.ret (h:PO g Q .ret Γ L):WP P r g .ret Q Γ L:=fun a w ha hw=>wpIn_ret (h a w ha hw)
theorem WP.exit {id:Nat} (h:PO g Q (.exit id) Γ L):WP P r g (.exit id) Q Γ L:=fun a w ha hw=>wpIn_exit (h a w ha hw)
theorem WP.block {id:Nat} {c:Code} (h:WP P r g c (Exit.inBlock id Q) Γ L):WP P r g (.block id c) Q Γ L:=fun a w ha hw=>wpIn_block (h a w ha hw)
theorem WP.cond {c:Operand} {x y:Code} {t:Bool} (hc:ev Γ c=some (.bool t)) (ht:t=true→WP P r g x Q Γ L) (hf:t=false→WP P r g y Q Γ L):WP P r g (.cond c x y) Q Γ L:=
  fun a w ha hw=>wpIn_cond_split (ev_ok hc ha) (fun e=>ht e a w ha hw) (fun e=>hf e a w ha hw)
theorem WP.cond_t {c:Operand} {x y:Code} (hc:ev Γ c=some (.bool true)) (ht:WP P r g x Q Γ L):WP P r g (.cond c x y) Q Γ L:=fun a w ha hw=>wpIn_cond_true (ev_ok hc ha) (ht a w ha hw)
theorem WP.cond_f {c:Operand} {x y:Code} (hc:ev Γ c=some (.bool false)) (hf:WP P r g y Q Γ L):WP P r g (.cond c x y) Q Γ L:=fun a w ha hw=>wpIn_cond_false (ev_ok hc ha) (hf a w ha hw)
theorem WP.conv {c:Code} {M:List HP} (hc:∀ S,stars L S→stars M S) (h:WP P r g c Q Γ M):WP P r g c Q Γ L:=fun a w ha hw=>h a w ha (hw.conv hc)
theorem WL.nil {l:List Oper} (h:PO g Q .normal Γ L):WL P r g l [] Q Γ L:=fun a w ha hw=>h a w ha hw
theorem PO.next {y:Code} (h:WP P r g y Q Γ L):PO g (Then P r y Q) .normal Γ L:=fun a w ha hw=>h a w ha hw
theorem WL.next {l:List Oper} {y:Code} (h:WP P r g y Q Γ L):WL P r g l [] (Then P r y Q) Γ L:=fun a w ha hw=>h a w ha hw
theorem PO.past {y:Code} {e:Exit} (he:e≠.normal) (h:PO g Q e Γ L):PO g (Then P r y Q) e Γ L:=fun a w ha hw=>by
  have:=h a w ha hw
  cases e <;> first | exact absurd rfl he | exact this
theorem PO.blockN {id:Nat} (h:PO g Q .normal Γ L):PO g (Exit.inBlock id Q) .normal Γ L:=h
theorem PO.blockR {id:Nat} (h:PO g Q .ret Γ L):PO g (Exit.inBlock id Q) .ret Γ L:=h
theorem PO.blockX {id:Nat} (h:PO g Q .normal Γ L):PO g (Exit.inBlock id Q) (.exit id) Γ L:=fun a w ha hw=>by simpa [Exit.inBlock] using h a w ha hw
theorem PO.blockY {id id':Nat} (hne:Nat.beq id' id=false) (h:PO g Q (.exit id') Γ L):PO g (Exit.inBlock id Q) (.exit id') Γ L:=fun a w ha hw=>by
  have:id'≠id:=ne_of_beq_no hne
  simpa [Exit.inBlock,this] using h a w ha hw
def Again {α:Type} (g:World) (n:Nat) (D:List Deferred) (I:α→List (Nat × Value) × List HP) (φ:α→Prop) (μ:α→Nat) (x:α):Act→World→Prop:=
  fun a w=>∃ y,φ y∧μ y < μ x∧Env.ok ⟨n,D,(I y).1⟩ a∧Sat g (I y).2 w
theorem WP.loop {α:Type} {c:Code} {D:List Deferred} {n:Nat} {l:List (Nat × Value)} (I:α→List (Nat × Value) × List HP) (φ:α→Prop) (μ:α→Nat) (x₀:α) (h₀:φ x₀) (hl:EnvSub (I x₀).1 l) (hL:Sub L (I x₀).2)
    (h:∀ x,φ x→WP P r g c (Exit.then (Again g n D I φ μ x) Q) ⟨n,D,(I x).1⟩ (I x).2):WP P r g (.loop c) Q ⟨n,D,l⟩ L:=by
  intro a w ha hw
  refine wpIn_loop_ghost (fun k a w=>∃ x,φ x∧μ x=k∧Env.ok ⟨n,D,(I x).1⟩ a∧Sat g (I x).2 w) (μ x₀) ⟨x₀,h₀,rfl,Env.ok_sub ha hl,hw.conv fun _=>hL.to⟩ ?_
  rintro k a w ⟨x,hx,rfl,hax,hwx⟩
  refine wpIn_mono (h x hx a w hax hwx) ?_
  intro e a' w' hq
  cases e <;> first | exact hq | skip
  obtain ⟨z,hz,hlt,haz,hwz⟩:=hq
  exact ⟨_,hlt,z,hz,rfl,haz,hwz⟩
theorem PO.again {α:Type} {D:List Deferred} {n:Nat} {l:List (Nat × Value)} {I:α→List (Nat × Value) × List HP} {φ:α→Prop} {μ:α→Nat} {x:α} (y:α) (hφ:φ y) (hμ:μ y < μ x) (hl:EnvSub (I y).1 l) (hL:Sub L (I y).2):PO g (Exit.then (Again g n D I φ μ x) Q) .normal ⟨n,D,l⟩ L:=
  fun _ _ ha hw=>⟨y,hφ,hμ,Env.ok_sub ha hl,hw.conv fun _=>hL.to⟩
theorem PO.round {K:Act→World→Prop} {e:Exit} (he:e≠.normal) (h:PO g Q e Γ L):PO g (Exit.then K Q) e Γ L:=fun a w ha hw=>by
  have:=h a w ha hw
  cases e <;> first | exact absurd rfl he | exact this
theorem WP.loopK {α:Type} {c:Code} {D:List Deferred} {n:Nat} {l:List (Nat × Value)} (E:α→List (Nat × Value)) (H:α→List HP) (keep:List (Nat × Value)) (φ:α→Prop) (μ:α→Nat) (x₀:α) (h₀:φ x₀)
    (h:∀ x,φ x→WP P r g c (Exit.then (Again g n D (fun x=>(E x++keep,H x)) φ μ x) Q) ⟨n,D,E x++keep⟩ (H x))
    (hl:EnvSub (E x₀++keep) l:=by repeat first | exact EnvSub.nil | refine EnvSub.cons rfl ?_) (hL:Sub L (H x₀):=by repeat first | exact .refl | exact Pick.z | apply Pick.s | apply Sub.cons | apply Sub.drop):WP P r g (.loop c) Q ⟨n,D,l⟩ L:=
  WP.loop (fun x=>(E x++keep,H x)) φ μ x₀ h₀ hl hL h
theorem PO.againK {α:Type} {D:List Deferred} {n:Nat} {l:List (Nat × Value)} {I:α→List (Nat × Value) × List HP} {φ:α→Prop} {μ:α→Nat} {x:α} (y:α) (hφ:φ y) (hμ:μ y < μ x)
    (hl:EnvSub (I y).1 l:=by repeat first | exact EnvSub.nil | refine EnvSub.cons rfl ?_) (hL:Sub L (I y).2:=by repeat first | exact .refl | exact Pick.z | apply Pick.s | apply Sub.cons | apply Sub.drop):PO g (Exit.then (Again g n D I φ μ x) Q) .normal ⟨n,D,l⟩ L:=PO.again y hφ hμ hl hL
def Meet {α:Type} (g:World) (n:Nat) (D:List Deferred) (I:α→List (Nat × Value) × List HP) (φ:α→Prop):Act→World→Prop:=fun a w=>∃ y,φ y∧Env.ok ⟨n,D,(I y).1⟩ a∧Sat g (I y).2 w
theorem WP.cut {α:Type} {c d:Code} {n:Nat} {D:List Deferred} (I:α→List (Nat × Value) × List HP) (φ:α→Prop) (h:WP P r g c (Exit.then (Meet g n D I φ) Q) Γ L) (hd:∀ x,φ x→WP P r g d Q ⟨n,D,(I x).1⟩ (I x).2) :
    WP P r g (.seq c d) Q Γ L:=fun a w ha hw=>wpIn_seq (wpIn_mono (h a w ha hw) fun e a' w' hq=>by
  cases e <;> first | exact hq | skip
  obtain ⟨y,hy,hay,hwy⟩:=hq
  exact hd y hy a' w' hay hwy)
theorem PO.meet {α:Type} {D:List Deferred} {n:Nat} {l:List (Nat × Value)} {I:α→List (Nat × Value) × List HP} {φ:α→Prop} (y:α) (hφ:φ y) (hl:EnvSub (I y).1 l) (hL:Sub L (I y).2) :
    PO g (Exit.then (Meet g n D I φ) Q) .normal ⟨n,D,l⟩ L:=fun _ _ ha hw=>⟨y,hφ,Env.ok_sub ha hl,hw.conv fun _=>hL.to⟩
theorem PO.meetK {α:Type} {D:List Deferred} {n:Nat} {l:List (Nat × Value)} {I:α→List (Nat × Value) × List HP} {φ:α→Prop} (y:α) (hφ:φ y) (hl:EnvSub (I y).1 l:=by repeat first | exact EnvSub.nil | refine EnvSub.cons rfl ?_)
    (hL:Sub L (I y).2:=by repeat first | exact .refl | exact Pick.z | apply Pick.s | apply Sub.cons | apply Sub.drop):PO g (Exit.then (Meet g n D I φ) Q) .normal ⟨n,D,l⟩ L:=PO.meet y hφ hl hL
def wants (ops:List Oper) (l:List (Nat × Value)):Option (Nat × Bool)→Option Bool
  | none=>some true
  | some (j,b)=>match ((ops[j]?).bind (·.dst)).bind (look l) with
    | some (.bool c)=>some (c == b)
    | some (.tuple _)=>some false
    | _=>none
theorem wants_ok {ops:List Oper} {o:Oper} {a:Act} {b:Bool} (h:wants ops Γ.l o.guard=some b) (ha:Γ.ok a):Region.wanted o (yielded ops.toArray a.tmps)=b:=by
  unfold wants at h;unfold Region.wanted
  cases hg:o.guard with
  | none=>rw [hg] at h;simpa using h
  | some x=>
    obtain ⟨j,c⟩:=x
    rw [hg] at h
    simp only at h ⊢
    unfold yielded
    simp only [List.getElem?_toArray]
    cases hd:(ops[j]?).bind (·.dst) with
    | none=>rw [hd] at h;simp at h
    | some d=>
      rw [hd] at h
      simp only [Option.bind_some] at h ⊢
      cases hv:look Γ.l d with
      | none=>rw [hv] at h;simp at h
      | some v=>
        rw [hv] at h
        rw [ha.at_ d v hv]
        cases v <;> simp_all
theorem WL.e {ops rest:List Oper} {n d:Nat} {D:List Deferred} {l:List (Nat × Value)} {op:Op} {t:TypeId} {pos:String} {aft:Array Edge} {gd:Option (Nat × Bool)} {v:Value}
    (he:EO P g ⟨some d,op,t,pos,aft,gd⟩ ⟨n,D,l⟩ L v) (h:WL P r g ops rest Q ⟨n,D,(d,v)::l⟩ L) (hg:wants ops l gd=some true:=by rfl) (hd:Nat.blt d n=true:=by rfl) :
    WL P r g ops (⟨some d,op,t,pos,aft,gd⟩::rest) Q ⟨n,D,l⟩ L:=by
  intro a w ha hw
  have hdn:d < n:=by simpa using hd
  obtain ⟨hrun,hop⟩:=he a.eval w (fun x u _ hx=>ev_ok hx ha) hw
  unfold wpListIn
  rw [if_pos (wants_ok (Γ:=⟨n,D,l⟩) hg ha)]
  refine ⟨about_FR,?_⟩
  rw [Oper.semAt_eq _ _ _ hop,hrun]
  exact h _ w (Env.ok_put v ha hdn) hw
theorem WL.skip {ops rest:List Oper} {n d:Nat} {D:List Deferred} {l:List (Nat × Value)} {op:Op} {t:TypeId} {pos:String} {aft:Array Edge} {gd:Option (Nat × Bool)}
    (h:WL P r g ops rest Q ⟨n,D,(d,.tuple #[])::l⟩ L) (hg:wants ops l gd=some false:=by rfl) (hd:Nat.blt d n=true:=by rfl) :
    WL P r g ops (⟨some d,op,t,pos,aft,gd⟩::rest) Q ⟨n,D,l⟩ L:=by
  intro a w ha hw
  have hdn:d < n:=by simpa using hd
  unfold wpListIn
  rw [if_neg (by rw [wants_ok (Γ:=⟨n,D,l⟩) hg ha];simp)]
  exact ⟨about_FR,h _ w (Env.ok_put _ ha hdn) hw⟩
theorem WL.h {ops rest:List Oper} {n d:Nat} {D:List Deferred} {l:List (Nat × Value)} {op:Op} {t:TypeId} {pos:String} {aft:Array Edge} {gd:Option (Nat × Bool)}
    (h:HO P r g ⟨some d,op,t,pos,aft,gd⟩ ⟨n,D,l⟩ L fun v M=>WL P r g ops rest Q ⟨n,D,(d,v)::l⟩ M) (hg:wants ops l gd=some true:=by rfl) (hd:Nat.blt d n=true:=by rfl) :
    WL P r g ops (⟨some d,op,t,pos,aft,gd⟩::rest) Q ⟨n,D,l⟩ L:=by
  intro a w ha hw
  have hdn:d < n:=by simpa using hd
  unfold wpListIn
  rw [if_pos (wants_ok (Γ:=⟨n,D,l⟩) hg ha)]
  exact h a w Q _ ha hw fun v M w' hk hw'=>hk _ w' (Env.ok_put v ha hdn) hw'
theorem WL.h' {ops rest:List Oper} {op:Op} {t:TypeId} {pos:String} {aft:Array Edge} {gd:Option (Nat × Bool)}
    (h:HO P r g ⟨none,op,t,pos,aft,gd⟩ Γ L fun _ M=>WL P r g ops rest Q Γ M) (hg:wants ops Γ.l gd=some true:=by rfl):WL P r g ops (⟨none,op,t,pos,aft,gd⟩::rest) Q Γ L:=by
  intro a w ha hw
  unfold wpListIn
  rw [if_pos (wants_ok (Γ:=Γ) hg ha)]
  exact h a w Q _ ha hw fun v M w' hk hw'=>hk a w' ha hw'
theorem WL.bool {ops rest:List Oper} {n:Nat} {D:List Deferred} {l:List (Nat × Value)} (d:Nat) {b:Bool} (hl:look l d=some (.bool b)) (ht:b=true→WL P r g ops rest Q ⟨n,D,(d,.bool true)::l⟩ L)
    (hf:b=false→WL P r g ops rest Q ⟨n,D,(d,.bool false)::l⟩ L):WL P r g ops rest Q ⟨n,D,l⟩ L:=by
  intro a w ha hw
  have hs:∀ c,b=c→Env.ok ⟨n,D,(d,.bool c)::l⟩ a:=fun c e=>by
    subst e
    refine ⟨ha.size,ha.defers,fun i v hi=>?_⟩
    simp only [look] at hi
    by_cases e:d=i
    · subst e;simp at hi;subst hi;exact ha.at_ _ _ hl
    · rw [beq_no e] at hi;exact ha.at_ _ _ hi
  cases hb:b with
  | true=>exact ht hb a w (hs _ hb) hw
  | false=>exact hf hb a w (hs _ hb) hw
theorem WL.conv {ops rest:List Oper} {M:List HP} (hc:∀ S,stars L S→stars M S) (h:WL P r g ops rest Q Γ M):WL P r g ops rest Q Γ L:=fun a w ha hw=>h a w ha (hw.conv hc)
theorem HO.run {o:Oper} {K:Value→List HP→Prop} (hop:∀ c,o.op≠.defer c)
    (h:∀ a w,Γ.ok a→Sat g L w→∃ v M w',(execOp a.eval o).run P w=.ok (.value v) w'∧K v M∧Sat g M w'):HO P r g o Γ L K:=by
  intro a w Q next ha hw hn
  obtain ⟨v,M,w',hr,hk,hw'⟩:=h a w ha hw
  refine ⟨about_FR,?_⟩
  rw [Oper.semAt_eq _ _ _ hop,hr]
  exact hn v M w' hk hw'
theorem HO.run_skip {o:Oper} {K:Value→List HP→Prop} (hop:∀ c,o.op≠.defer c)
    (h:∀ a w,Γ.ok a→Sat g L w→∃ M w',(execOp a.eval o).run P w=.ok .skip w'∧K (.tuple #[]) M∧Sat g M w'):HO P r g o Γ L K:=by
  intro a w Q next ha hw hn
  obtain ⟨M,w',hr,hk,hw'⟩:=h a w ha hw
  refine ⟨about_FR,?_⟩
  rw [Oper.semAt_eq _ _ _ hop,hr]
  exact hn _ M w' hk hw'
def Spec (P:Program) (g:World) (f:FuncId) (args:List Value) (Pre:List HP) (T:(Value→List HP→Prop)→List HP→Prop):Prop:=
  ∀ (R:List HP) (K:Value→List HP→Prop) (w:World),Sat g (Pre++R) w→T K R→Calls P f args.toArray w fun e w'=>∃ v M,e=.returned v∧K v M∧Sat g M w'
def RP (P:Program) (g:World) (fn:Func) (K:Value→List HP→Prop):Post:=bodyPostM Fence.wide 0 P fn fun e w'=>∃ v M,e=.returned v∧K v M∧Sat g M w'
def bindArgs:Nat→List Value→List (Nat × Value)
  | _,[]=>[]
  | i,v::l=>(i,v)::bindArgs (i+1) l
theorem look_bindArgs:∀ (l:List Value) (i j:Nat) (v:Value),look (bindArgs i l) j=some v→i≤j∧l[j - i]?=some v
  | [],_,_,_,h=>by cases h
  | u::l,i,j,v,h=>by
    simp only [bindArgs,look] at h
    by_cases e:i=j
    · subst e;simp at h;subst h;simp
    · rw [beq_no e] at h
      obtain ⟨h1,h2⟩:=look_bindArgs l (i+1) j v h
      refine ⟨by omega,?_⟩
      obtain ⟨k,rfl⟩:∃ k,j=i+1+k:=⟨j - (i+1),by omega⟩
      have e1:i+1+k - (i+1)=k:=by omega
      have e2:i+1+k - i=k+1:=by omega
      rw [e1] at h2;rw [e2];simpa using h2
theorem Spec.intro {f:FuncId} {fn:Func} {c:Code} {args:List Value} {Pre:List HP} {T:(Value→List HP→Prop)→List HP→Prop} {n:Nat} (hf:P.funcs[f]?=some fn) (hb:fn.body=some c) (hn:fn.ntmps=n) (hle:Nat.ble args.length n=true)
    (h:∀ (R:List HP) (K:Value→List HP→Prop),T K R→WP P none g c (RP P g fn K) ⟨n,[],bindArgs 0 args⟩ (Pre++R)):Spec P g f args Pre T:=by
  intro R K w hw hT
  have hle':args.length≤n:=by simpa using hle
  have h1:CallsIn Fence.wide 0 P f args.toArray w fun e w'=>∃ v M,e=.returned v∧K v M∧Sat g M w':=by
    refine callsIn_of_wp_marks hf hb trivial ?_
    refine h R K hT _ w ⟨?_,rfl,?_⟩ hw
    · simp;omega
    · intro i v hi
      obtain ⟨_,h2⟩:=look_bindArgs args 0 i v hi
      simp only [Nat.sub_zero] at h2
      have hlt:i < args.length:=by
        rcases Nat.lt_or_ge i args.length with h' | h'
        · exact h'
        · rw [List.getElem?_eq_none h'] at h2;cases h2
      simp only
      rw [Array.getElem?_append_left (by simpa using hlt)]
      simpa using h2
  exact callsIn_wide.1 h1
def readRV (a:Act):ResultVar→Sem Value
  | .tmp t=>pure (a.tmps.getD t undef)
  | .cell p t=>do loadVar t (← asAddr (a.tmps.getD p undef))
def RV (P:Program) (g:World) (Γ:Env) (L:List HP):List ResultVar→List Value→Prop
  | [],vs=>vs=[]
  | x::rs,vs=>∃ v us,vs=v::us∧(∀ a w,Γ.ok a→Sat g L w→(readRV a x).run P w=.ok v w)∧RV P g Γ L rs us
def tupOf:List Value→Value
  | [v]=>v
  | vs=>.tuple vs.toArray
@[simp] theorem tupOf0:tupOf []=.tuple #[]:=rfl
@[simp] theorem tupOf1 {v:Value}:tupOf [v]=v:=rfl
@[simp] theorem tupOf2 {u v:Value} {l:List Value}:tupOf (u::v::l)=.tuple (u::v::l).toArray:=rfl
theorem rv_nil:RV P g Γ L [] []:=rfl
theorem rv_tmp {t:Tmp} {v:Value} {rs:List ResultVar} {vs:List Value} (h:RV P g Γ L rs vs) (hv:look Γ.l t=some v:=by rfl):RV P g Γ L (.tmp t::rs) (v::vs):=
  ⟨v,vs,rfl,fun a w ha _=>by simp [readRV,ha.at_ t v hv],h⟩
theorem RV.run:∀ (rs:List ResultVar) (vs:List Value),RV P g Γ L rs vs→∀ a w,Γ.ok a→Sat g L w→(rs.mapM (readRV a)).run P w=.ok vs w
  | [],vs,h,a,w,_,_=>by cases h;rfl
  | x::rs,vs,h,a,w,ha,hw=>by
    obtain ⟨v,us,rfl,h1,h2⟩:=h
    simp only [List.mapM_cons,Sem.run_bind,h1 a w ha hw,Result.andThen_ok,RV.run rs us h2 a w ha hw,Sem.run_pure]
theorem run_results {fn:Func} {rs:List ResultVar} {vs:List Value} (hr:fn.results=rs.toArray) (h:RV P g Γ L rs vs) {a:Act} {w:World} (ha:Γ.ok a) (hw:Sat g L w):(results fn a.tmps).run P w=.ok (tupOf vs) w:=by
  show (do let vs ← fn.results.mapM (readRV a);pure (if h:vs.size=1 then vs[0] else .tuple vs):Sem Value).run P w=_
  rw [hr,Array.mapM_eq_mapM_toList]
  simp only [Sem.run_bind,Sem.run_map]
  rw [RV.run rs vs h a w ha hw]
  simp only [Result.andThen_ok]
  cases vs with
  | nil=>rfl
  | cons v vs=>cases vs <;> rfl
theorem PO.fin {fn:Func} {K:Value→List HP→Prop} {e:Exit} {n:Nat} {l:List (Nat × Value)} {rs:List ResultVar} {vs:List Value} {M:List HP} (hr:fn.results=rs.toArray) (hv:RV P g ⟨n,[],l⟩ L rs vs) (hk:K (tupOf vs) M)
    (hL:Sub L M:=by repeat first | exact .refl | exact Pick.z | apply Pick.s | apply Sub.cons | apply Sub.drop) (he:e=.ret∨e=.normal:=by first | exact .inl rfl | exact .inr rfl):PO g (RP P g fn K) e ⟨n,[],l⟩ L:=by
  intro a w ha hw
  have:LeavesInM Fence.wide 0 P fn a.tmps (fun e w'=>∃ v M,e=.returned v∧K v M∧Sat g M w') a.defers .returning w:=by
    rw [show a.defers=[] from ha.defers]
    exact ⟨tupOf vs,run_results hr hv ha hw,_,M,rfl,hk,hw.conv fun _=>hL.to⟩
  rcases he with rfl | rfl <;> exact this
theorem PO.finE {fn:Func} {K:Value→List HP→Prop} {e:Exit} {n:Nat} {l:List (Nat × Value)} {rs:List ResultVar} {vs:List Value} {v:Value} {M:List HP} (hr:fn.results=rs.toArray) (hv:RV P g ⟨n,[],l⟩ L rs vs) (hE:tupOf vs=v) (hk:K v M)
    (hL:Sub L M:=by repeat first | exact .refl | exact Pick.z | apply Pick.s | apply Sub.cons | apply Sub.drop) (he:e=.ret∨e=.normal:=by first | exact .inl rfl | exact .inr rfl):PO g (RP P g fn K) e ⟨n,[],l⟩ L:=PO.fin hr hv (hE ▸ hk) hL he
theorem PO.finM {fn:Func} {K:Value→List HP→Prop} {e:Exit} {n d:Nat} {l:List (Nat × Value)} {rs:List ResultVar} {vs:List Value} {M N:List HP} {asq:Array Value} (hp:Put L (pt d (.deferred (some []))) (pt d (.deferred none)) N) (hr:fn.results=rs.toArray) (hv:RV P g ⟨n,[⟨.collected d,asq⟩],l⟩ N rs vs) (hk:K (tupOf vs) M)
    (hL:Sub N M:=by repeat first | exact .refl | exact Pick.z | apply Pick.s | apply Sub.cons | apply Sub.drop) (he:e=.ret∨e=.normal:=by first | exact .inl rfl | exact .inr rfl):PO g (RP P g fn K) e ⟨n,[⟨.collected d,asq⟩],l⟩ L:=by
  intro a w ha hw
  obtain ⟨R,p1,_⟩:=hp.picks
  have hd:=hw.get p1
  have hw':Sat g N { w with heap:=w.heap.setIfInBounds d (.deferred none) }:=by
    have hlt:d < w.heap.size:=by
      rcases Nat.lt_or_ge d w.heap.size with h' | h'
      · exact h'
      · rw [Array.getElem?_eq_none h'] at hd;cases hd
    exact hw.set hp _ rfl rfl rfl (by simp) (by simp [hlt]) (fun i hi=>by simp [Array.getElem?_setIfInBounds_ne (Ne.symm hi)])
  have:LeavesInM Fence.wide 0 P fn a.tmps (fun e w'=>∃ v M,e=.returned v∧K v M∧Sat g M w') a.defers .returning w:=by
    rw [show a.defers=[⟨.collected d,asq⟩] from ha.defers]
    refine ⟨by simp,.inl ⟨d,{ w with heap:=w.heap.setIfInBounds d (.deferred none) },rfl,?_,?_⟩⟩
    · simp [Instr.takeDeferred,getObj,setObj,Sem.run,hd]
    · exact ⟨tupOf vs,run_results hr hv ha hw',_,M,rfl,hk,hw'.conv fun _=>hL.to⟩
  rcases he with rfl | rfl <;> exact this
theorem EnvSub.skip {l m:List (Nat × Value)} {d:Nat} {v:Value} (hs:EnvSub l m) (h:look l d=none:=by rfl):EnvSub l ((d,v)::m):=fun i u hi=>by
  by_cases e:d=i
  · subst e;rw [h] at hi;cases hi
  · simp only [look];rw [beq_no e];exact hs i u hi
theorem EnvSub.same {l:List (Nat × Value)} {d:Nat} {b c:Bool} (h:look l d=some (.bool b)) (hb:b=c):EnvSub l ((d,.bool c)::l):=fun i u hi=>by
  by_cases e:d=i
  · subst e;rw [h] at hi;cases hi;subst hb;simp [look]
  · simp only [look];rw [beq_no e];exact hi
theorem EnvSub.refl {l:List (Nat × Value)}:EnvSub l l:=fun _ _ h=>h
def Seg (g:World) (n:Nat) (D:List Deferred) (l:List (Nat × Value)) (L:List HP):Post:=fun e a w=>e=.normal∧Env.ok ⟨n,D,l⟩ a∧Sat g L w
theorem PO.seg {n:Nat} {D:List Deferred} {l m:List (Nat × Value)} {M:List HP} (hl:EnvSub m l) (hL:Sub L M:=by repeat first | exact .refl | exact Pick.z | apply Pick.s | apply Sub.cons | apply Sub.drop):PO g (Seg g n D m M) .normal ⟨n,D,l⟩ L:=
  fun _ _ ha hw=>⟨rfl,Env.ok_sub ha hl,hw.conv fun _=>hL.to⟩
theorem wpListIn_append {ops:Array Oper} {Q:Post} {F:Fence} {k:Nat} (l m:List Oper):∀ (a:Act) (w:World),wpListIn F k P ops (fun e a w=>e=.normal∧wpListIn F k P ops Q m a w) l a w→(∀ c a w,¬ (fun (e:Exit) (a:Act) (w:World)=>e=.normal∧wpListIn F k P ops Q m a w) (.panic c) a w)→wpListIn F k P ops Q (l++m) a w:=by
  induction l with
  | nil=>exact fun a w h _=>h.2
  | cons o l ih=>
    intro a w h hn
    show wpListIn F k P ops Q (o::(l++m)) a w
    unfold wpListIn at h ⊢
    by_cases hw:Region.wanted o (yielded ops a.tmps)=true
    · rw [if_pos hw] at h ⊢
      refine Oper.wpIn_mono (Q:=Q) (fun a w h=>ih a w h hn) ?_
      refine ⟨h.1,?_⟩
      have h2:=h.2
      generalize (o.semAt F.round a.eval).run P w=x at *
      cases x with
      | ok y w'=>
        cases y <;> simp only [Oper.uponIn] at h2 ⊢ <;> first
          | exact h2
          | exact ⟨h2.1,CallsIn.mono h2.2 (fun e w'' he=>by cases e <;> first | exact he | exact (nomatch he.1) | (obtain ⟨_,_,h0,_⟩:=he;exact nomatch h0))⟩
          | exact ⟨h2.1,RoundIn.mono h2.2 (fun e w'' he=>by cases e <;> first | exact he | exact (nomatch he.1) | (obtain ⟨_,_,h0,_⟩:=he;exact nomatch h0))⟩
      | halt y w'=>
        cases y <;> simp only [Oper.uponIn] at h2 ⊢ <;> first
          | exact h2
          | (obtain ⟨h0,_⟩:=h2;cases h0)
    · rw [if_neg hw] at h ⊢
      exact ⟨h.1,ih _ _ h.2 hn⟩
theorem WL.seg {ops seg rest:List Oper} {n:Nat} {D:List Deferred} {l:List (Nat × Value)} (m:List (Nat × Value)) (M:List HP) (h1:WL P r g ops seg (Seg g n D m M) ⟨n,D,l⟩ L) (h2:WL P r g ops rest Q ⟨n,D,m⟩ M):WL P r g ops (seg++rest) Q ⟨n,D,l⟩ L:=by
  intro a w ha hw
  refine wpListIn_append seg rest a w ?_ (fun c a w h=>by cases h.1)
  have h:=h1 a w ha hw
  refine wpListIn_mono' ?_ h
  rintro e a' w' ⟨rfl,ha',hw'⟩
  exact ⟨rfl,h2 a' w' ha' hw'⟩
where
  wpListIn_mono' {ops:Array Oper} {Q Q':Post} {F:Fence} {k:Nat} (hq:∀ e a w,Q e a w→Q' e a w):∀ {l:List Oper} {a:Act} {w:World},wpListIn F k P ops Q l a w→wpListIn F k P ops Q' l a w
    | [],_,_,h=>hq _ _ _ h
    | o::l,a,w,h=>by
      unfold wpListIn at h ⊢
      by_cases hw:Region.wanted o (yielded ops a.tmps)=true
      · rw [if_pos hw] at h ⊢
        refine Oper.wpIn_mono (Q:=Q') (fun a w h=>wpListIn_mono' hq h) ?_
        refine ⟨h.1,?_⟩
        have h2:=h.2
        generalize (o.semAt F.round a.eval).run P w=x at *
        cases x with
        | ok y w'=>
          cases y <;> simp only [Oper.uponIn] at h2 ⊢ <;> first
            | exact h2
            | exact ⟨h2.1,CallsIn.mono h2.2 (fun e w'' he=>by cases e <;> first | exact he | exact hq _ _ _ he | (obtain ⟨a,w,h0⟩:=he;exact ⟨a,w,hq _ _ _ h0⟩))⟩
            | exact ⟨h2.1,RoundIn.mono h2.2 (fun e w'' he=>by cases e <;> first | exact he | exact hq _ _ _ he | (obtain ⟨a,w,h0⟩:=he;exact ⟨a,w,hq _ _ _ h0⟩))⟩
        | halt y w'=>
          cases y <;> simp only [Oper.uponIn] at h2 ⊢ <;> first
            | exact h2
            | exact hq _ _ _ h2
      · rw [if_neg hw] at h ⊢
        exact ⟨h.1,wpListIn_mono' hq h.2⟩
inductive Cut:List Oper→List Oper→List Oper→Prop
  | n {l:List Oper}:Cut [] l l
  | c {o:Oper} {a b l:List Oper}:Cut a b l→Cut (o::a) b (o::l)
theorem Cut.eq {a b l:List Oper} (h:Cut a b l):l=a++b:=by
  induction h with
  | n=>rfl
  | c _ ih=>rw [ih];rfl
theorem WL.join {ops seg rest xs:List Oper} {n:Nat} {D:List Deferred} {l:List (Nat × Value)} (d:Nat) (v:Value) (hc:Cut seg rest xs) (h1:WL P r g ops seg (Seg g n D ((d,v)::l) L) ⟨n,D,l⟩ L)
    (h2:WL P r g ops rest Q ⟨n,D,(d,v)::l⟩ L):WL P r g ops xs Q ⟨n,D,l⟩ L:=by
  rw [hc.eq];exact WL.seg _ _ h1 h2
theorem PO.joined {n d:Nat} {D:List Deferred} {l m:List (Nat × Value)} {u v:Value} {M:List HP} (hu:look m d=some u) (he:u=v) (hl:EnvSub l m:=by repeat first | exact EnvSub.refl | exact EnvSub.same rfl (by assumption) | refine EnvSub.skip ?_ rfl)
    (hL:Sub L M:=by repeat first | exact .refl | exact Pick.z | apply Pick.s | apply Sub.cons | apply Sub.drop):PO g (Seg g n D ((d,v)::l) M) .normal ⟨n,D,m⟩ L:=PO.seg (EnvSub.cons (he ▸ hu) hl) hL
end
end Go.SL
namespace Go.SL
open Go
section facts
variable (P : Program)
def szOf (t:TypeId):Option Nat:=(P.info? t).map (·.size)
def aggOf (t:TypeId):Option (Option Nat):=match P.underlying t with
  | some (.struct _) | some (.array _ _)=>(szOf P t).map some
  | some _=>some none
  | none=>none
def zeroOf (t:TypeId):Option (List Value):=((P.info? t).bind (·.zero)).map (·.cells.toList)
def fldOf (s i:Nat):Option Nat:=match P.underlying s with
  | some (.struct fs)=>(fs[i]?).bind fun f=>(szOf P f.type).bind fun z=>if z=0 then none else some f.offset
  | _=>none
def partOf (s i:Nat):Option (Nat × Option Nat):=match P.underlying s with
  | some (.struct fs)=>(fs[i]?).bind fun f=>(aggOf P f.type).map fun z=>(f.offset,z)
  | _=>none
def slOf (t:TypeId):Option (TypeId × Nat × Nat):=match P.underlying t with
  | some (.slice e)=>(P.info? e).map fun i=>(e,i.size,i.bytes)
  | _=>none
def arrOf (t:TypeId):Option (TypeId × Nat × Nat):=match P.underlying t with
  | some (.array n e)=>(P.info? e).map fun i=>(e,n,i.size)
  | _=>none
def placesOf (t:TypeId):Option (List (Nat × Nat)):=match P.underlying t with
  | some (.struct fs)=>fs.toList.mapM fun f=>(szOf P f.type).map fun z=>(f.offset,z)
  | _=>none
end facts
section
variable {P : Program}
theorem run_isAgg {t:TypeId} {x:Option Nat} (h:aggOf P t=some x) (w:World):(isAgg t).run P w=.ok x.isSome w:=by
  unfold aggOf at h
  unfold isAgg
  cases hu:P.underlying t with
  | none=>rw [hu] at h;cases h
  | some d=>
    rw [hu] at h
    simp only [Sem.run_bind,run_underlying hu,Result.andThen_ok]
    cases d <;> simp at h <;> first | (subst h;rfl) | (obtain ⟨z,_,rfl⟩:=h;rfl)
theorem agg_size {t:TypeId} {n:Nat} (h:aggOf P t=some (some n)):szOf P t=some n:=by
  unfold aggOf at h
  split at h <;> simp_all
theorem run_typeInfo {t:TypeId} {i:TypeInfo} (h:P.info? t=some i) (w:World):(typeInfo t).run P w=.ok i w:=by
  simp [typeInfo,h]
theorem run_sizeOf {t:TypeId} {n:Nat} (h:szOf P t=some n) (w:World):(sizeOf t).run P w=.ok n w:=by
  unfold szOf at h
  cases hi:P.info? t with
  | none=>rw [hi] at h;cases h
  | some i=>rw [hi] at h;simp at h;simp [sizeOf,run_typeInfo hi,h]
theorem run_zeroValue {t:TypeId} {v:Value} (h:(P.info? t).bind (·.zero)=some v) (w:World):(zeroValue t).run P w=.ok v w:=by
  cases hi:P.info? t with
  | none=>rw [hi] at h;cases h
  | some i=>rw [hi] at h;simp at h;simp [zeroValue,run_typeInfo hi,h]
inductive Ext:List Value→Nat→Nat→List Value→Prop
  | done {l:List Value} {o n:Nat}:Nat.beq n 0=true→Ext l o n []
  | here {a:Value} {l vs:List Value} {o n:Nat}:Nat.beq o 0=true→Nat.beq n 0=false→Ext l 0 (Nat.pred n) vs→Ext (a::l) o n (a::vs)
  | there {a:Value} {l vs:List Value} {o n:Nat}:Nat.beq o 0=false→Ext l (Nat.pred o) n vs→Ext (a::l) o n vs
theorem Ext.ok {l vs:List Value} {o n:Nat} (h:Ext l o n vs):(l.drop o).take n=vs∧(o+n≤l.length∨n=0):=by
  induction h with
  | done h=>have:=Nat.eq_of_beq_eq_true h;subst this;simp
  | @here a l vs o n h h' _ ih=>
    have:=Nat.eq_of_beq_eq_true h;subst this
    have hn:=ne_of_beq_no h'
    obtain ⟨m,rfl⟩:∃ m,n=m+1:=⟨n - 1,by omega⟩
    simp only [Nat.pred_succ,List.drop_zero] at ih
    refine ⟨by simp [ih.1],.inl ?_⟩
    simp only [List.length_cons]
    rcases ih.2 with h0 | h0 <;> omega
  | @there a l vs o n h _ ih=>
    have hn:=ne_of_beq_no h
    obtain ⟨m,rfl⟩:∃ m,o=m+1:=⟨o - 1,by omega⟩
    simp only [Nat.pred_succ] at ih
    refine ⟨by simp [ih.1],?_⟩
    simp only [List.length_cons]
    rcases ih.2 with h0 | h0
    · left;omega
    · exact .inr h0
def isCl (w:World) (b:Nat) (l:List Value):Prop:=∃ t:TypeId × (Nat × Nat),w.heap[b]?=some (.cells l.toArray t.1 t.2)
theorem isCl.cell {w:World} {b:Nat} {l:List Value} (h:isCl w b l) (o:Nat):w.cell? ⟨b,o,none⟩=l[o]?:=by
  obtain ⟨t,h⟩:=h;simp [World.cell?,h]
theorem add_none (b o n:Nat):Addr.add ⟨b,o,none⟩ n=⟨b,o+n,none⟩:=by unfold Addr.add;split <;> simp_all
theorem run_load_cl {w:World} {b o:Nat} {l:List Value} {v:Value} (h:isCl w b l) (hv:l[o]?=some v):(load ⟨b,o,none⟩).run P w=.ok v w:=by
  simp [h.cell,hv]
theorem run_loadCellsFrom {w:World} {b o:Nat} {l:List Value} (h:isCl w b l):∀ (n i:Nat) (acc:Array Value),o+i+n≤l.length →
    (loadCellsFrom ⟨b,o,none⟩ i n acc).run P w=.ok (acc++((l.drop (o+i)).take n).toArray) w
  | 0,i,acc,_=>by simp [loadCellsFrom]
  | n+1,i,acc,hle=>by
    have hlt:o+i < l.length:=by omega
    unfold loadCellsFrom
    rw [add_none]
    simp only [Sem.run_bind,run_load_cl h (List.getElem?_eq_getElem hlt),Result.andThen_ok]
    rw [run_loadCellsFrom h n (i+1) (acc.push l[o+i]) (by omega)]
    congr 1
    rw [List.drop_eq_getElem_cons hlt,List.take_succ_cons]
    apply Array.ext'
    simp [Nat.add_assoc]
theorem run_loadCells {w:World} {b o n:Nat} {l:List Value} (h:isCl w b l) (hle:o+n≤l.length):(loadCells ⟨b,o,none⟩ n).run P w=.ok ((l.drop o).take n).toArray w:=by
  unfold loadCells;rw [run_loadCellsFrom h n 0 #[] (by omega)];simp
theorem run_loadVar1 {t:TypeId} {w:World} {b o:Nat} {l:List Value} {v:Value} (ht:aggOf P t=some none) (h:isCl w b l) (hv:l[o]?=some v):(loadVar t ⟨b,o,none⟩).run P w=.ok v w:=by
  unfold loadVar;simp only [Sem.run_bind,run_isAgg ht,Result.andThen_ok];exact run_load_cl h hv
theorem run_loadVarN {t:TypeId} {w:World} {b o n:Nat} {l:List Value} (ht:aggOf P t=some (some n)) (h:isCl w b l) (hle:o+n≤l.length):(loadVar t ⟨b,o,none⟩).run P w=.ok (.agg ((l.drop o).take n).toArray) w:=by
  unfold loadVar;simp [run_isAgg ht,run_sizeOf (agg_size ht),run_loadCells h hle]
theorem run_loadVarN' {t:TypeId} {w:World} {b o n:Nat} {l:List Value} (ht:aggOf P t=some (some n)) (h:isCl w b l) (hle:o+n≤l.length∨n=0):(loadVar t ⟨b,o,none⟩).run P w=.ok (.agg ((l.drop o).take n).toArray) w:=by
  rcases hle with hle | rfl
  · exact run_loadVarN ht h hle
  · unfold loadVar;simp [run_isAgg ht,run_sizeOf (agg_size ht),loadCells,loadCellsFrom]
end
section
variable {P : Program} {r : Option Nat} {g : World} {Γ : Env} {L : List HP} {dst : Option Tmp} {t : TypeId} {pos : String} {aft : Array Edge} {gd : Option (Nat × Bool)}
theorem Sat.isCl {w:World} {M:List HP} {b:Nat} {u:TypeId} {l:List Value} (h:Sat g L w) (hp:Pick L (cl b u l) M):SL.isCl w b l:=⟨(u,(0,0)),h.get hp⟩
theorem EO.of {o:Oper} {v:Value} (hop:∀ c,o.op≠.defer c) (h:∀ ρ:Operand→Value,(∀ x u,x ∈ o.op.operands→ev Γ x=some u→ρ x=u)→∀ w,Sat g L w→(execOp ρ o).run P w=.ok (.value v) w):EO P g o Γ L v:=
  fun ρ w hρ hw=>⟨h ρ hρ w hw,hop⟩
theorem e_move {x:Operand} {v:Value} (h:ev Γ x=some v:=by rfl):EO P g ⟨dst,.move x,t,pos,aft,gd⟩ Γ L v:=
  .of (by simp) fun ρ hρ w _=>by simp [execOp,hρ x v (by simp [Op.operands]) h]
theorem e_assign {x:Operand} {v:Value} (h:ev Γ x=some v:=by rfl):EO P g ⟨dst,.assign x,t,pos,aft,gd⟩ Γ L v:=
  .of (by simp) fun ρ hρ w _=>by simp [execOp,hρ x v (by simp [Op.operands]) h]
theorem e_pick_t {c x y:Operand} {v:Value} (hc:ev Γ c=some (.bool true):=by rfl) (h:ev Γ x=some v:=by rfl):EO P g ⟨dst,.pick c x y,t,pos,aft,gd⟩ Γ L v:=
  .of (by simp) fun ρ hρ w _=>by simp [execOp,hρ c _ (by simp [Op.operands]) hc,hρ x v (by simp [Op.operands]) h,asBool]
theorem e_pick_f {c x y:Operand} {v:Value} (hc:ev Γ c=some (.bool false):=by rfl) (h:ev Γ y=some v:=by rfl):EO P g ⟨dst,.pick c x y,t,pos,aft,gd⟩ Γ L v:=
  .of (by simp) fun ρ hρ w _=>by simp [execOp,hρ c _ (by simp [Op.operands]) hc,hρ y v (by simp [Op.operands]) h,asBool]
theorem e_extract {x:Operand} {vs:List Value} {i:Nat} {v:Value} (hx:ev Γ x=some (.tuple vs.toArray):=by rfl) (h:vs[i]?=some v:=by rfl):EO P g ⟨dst,.extract x i,t,pos,aft,gd⟩ Γ L v:=
  .of (by simp) fun ρ hρ w _=>by simp [execOp,hρ x _ (by simp [Op.operands]) hx,Instr.extract,h]
def evs (Γ:Env):List Operand→Option (List Value)
  | []=>some []
  | x::l=>match ev Γ x,evs Γ l with
    | some v,some m=>some (v::m)
    | _,_=>none
theorem evs_map {l:List Operand} {vs:List Value} {ρ:Operand→Value} (h:evs Γ l=some vs) (hρ:∀ x u,x ∈ l→ev Γ x=some u→ρ x=u):l.map ρ=vs:=by
  induction l generalizing vs with
  | nil=>simp [evs] at h;simp [h]
  | cons x l ih=>
    simp only [evs] at h
    cases hx:ev Γ x with
    | none=>rw [hx] at h;simp at h
    | some v=>
      cases hl:evs Γ l with
      | none=>rw [hx,hl] at h;simp at h
      | some m=>rw [hx,hl] at h;simp at h;subst h;simp [hρ x v (by simp) hx,ih hl (fun y u hy=>hρ y u (by simp [hy]))]
theorem evs_mapA {l:List Operand} {vs:List Value} {ρ:Operand→Value} (h:evs Γ l=some vs) (hρ:∀ x u,x ∈ l→ev Γ x=some u→ρ x=u):l.toArray.map ρ=vs.toArray:=by
  simp [evs_map h hρ]
theorem e_makeFunc {fn:Fn} {fs cs:List Operand} {vs us:List Value} (hf:evs Γ fs=some vs:=by rfl) (hc:evs Γ cs=some us:=by rfl):EO P g ⟨dst,.makeFunc fn fs.toArray cs.toArray,t,pos,aft,gd⟩ Γ L (.func fn vs.toArray us.toArray):=
  .of (by simp) fun ρ hρ w _=>by
    simp only [execOp,Sem.run_bind,Instr.makeFunc,evs_mapA hf (fun x u hx=>hρ x u (by simp [Op.operands,hx])),evs_mapA hc (fun x u hx=>hρ x u (by simp [Op.operands,hx]))]
    rfl
theorem e_bin {op:BinOp} {xt yt:TypeId} {x y:Operand} {u v z:Value} (hx:ev Γ x=some u) (hy:ev Γ y=some v) (h:∀ w,(do eqGuard op xt x y u v;binOp op xt u v:Sem Value).run P w=.ok z w):EO P g ⟨dst,.binOp op xt x y yt,t,pos,aft,gd⟩ Γ L z:=
  .of (by simp) fun ρ hρ w _=>by
    have h1:=hρ x u (by simp [Op.operands]) hx
    have h2:=hρ y v (by simp [Op.operands]) hy
    show ((do pure (Next.value (← (do eqGuard op xt x y (ρ x) (ρ y);binOp op xt (ρ x) (ρ y):Sem Value))):Sem Next)).run P w=_
    rw [h1,h2,Sem.run_bind,h w];rfl
section ints
variable {xt yt : TypeId} {x y : Operand} {k : IntKind} {a b c : Int}
theorem e_add (hx:ev Γ x=some (.int k a)) (hy:ev Γ y=some (.int k b)) (h:k.wrap (a+b)=c):EO P g ⟨dst,.binOp .add xt x y yt,t,pos,aft,gd⟩ Γ L (.int k c):=e_bin hx hy fun w=>by simp [go_sem,Op.intArith,h]
theorem e_sub (hx:ev Γ x=some (.int k a)) (hy:ev Γ y=some (.int k b)) (h:k.wrap (a - b)=c):EO P g ⟨dst,.binOp .sub xt x y yt,t,pos,aft,gd⟩ Γ L (.int k c):=e_bin hx hy fun w=>by simp [go_sem,Op.intArith,h]
theorem e_mul (hx:ev Γ x=some (.int k a)) (hy:ev Γ y=some (.int k b)) (h:k.wrap (a * b)=c):EO P g ⟨dst,.binOp .mul xt x y yt,t,pos,aft,gd⟩ Γ L (.int k c):=e_bin hx hy fun w=>by simp [go_sem,Op.intArith,h]
theorem e_quo (hx:ev Γ x=some (.int k a)) (hy:ev Γ y=some (.int k b)) (h0:b≠0) (h:k.wrap (a.tdiv b)=c):EO P g ⟨dst,.binOp .quo xt x y yt,t,pos,aft,gd⟩ Γ L (.int k c):=e_bin hx hy fun w=>by simp [go_sem,Op.intDiv,h,h0]
theorem e_rem (hx:ev Γ x=some (.int k a)) (hy:ev Γ y=some (.int k b)) (h0:b≠0) (h:a.tmod b=c):EO P g ⟨dst,.binOp .rem xt x y yt,t,pos,aft,gd⟩ Γ L (.int k c):=e_bin hx hy fun w=>by simp [go_sem,Op.intDiv,h,h0]
theorem e_bits {op:BinOp} (hop:op=.and∨op=.or∨op=.xor∨op=.andNot) (hx:ev Γ x=some (.int k a)) (hy:ev Γ y=some (.int k b)) (h:bits op k a b=c):EO P g ⟨dst,.binOp op xt x y yt,t,pos,aft,gd⟩ Γ L (.int k c):=
  e_bin hx hy fun w=>by rcases hop with rfl | rfl | rfl | rfl <;> simp [go_sem,h]
theorem e_shl {k':IntKind} (hx:ev Γ x=some (.int k a)) (hy:ev Γ y=some (.int k' b)) (h0:0≤b) (h1:b≤k.bits) (h:k.wrap (a * 2 ^ b.toNat)=c):EO P g ⟨dst,.binOp .shl xt x y yt,t,pos,aft,gd⟩ Γ L (.int k c):=e_bin hx hy fun w=>by
  simp [go_sem,shift_shl k k' a b h0 h1,h]
theorem e_shr {k':IntKind} (hx:ev Γ x=some (.int k a)) (hy:ev Γ y=some (.int k' b)) (h0:0≤b) (h1:b≤k.bits) (h:a / 2 ^ b.toNat=c):EO P g ⟨dst,.binOp .shr xt x y yt,t,pos,aft,gd⟩ Γ L (.int k c):=e_bin hx hy fun w=>by
  simp [go_sem,shift_shr k k' a b h0 h1,h]
theorem e_eql (hx:ev Γ x=some (.int k a):=by rfl) (hy:ev Γ y=some (.int k b):=by rfl):EO P g ⟨dst,.binOp .eql xt x y yt,t,pos,aft,gd⟩ Γ L (.bool (a == b)):=e_bin hx hy fun w=>by simp [go_sem]
theorem e_neq (hx:ev Γ x=some (.int k a):=by rfl) (hy:ev Γ y=some (.int k b):=by rfl):EO P g ⟨dst,.binOp .neq xt x y yt,t,pos,aft,gd⟩ Γ L (.bool (a != b)):=e_bin hx hy fun w=>by simp [go_sem]
theorem e_lss (hx:ev Γ x=some (.int k a):=by rfl) (hy:ev Γ y=some (.int k b):=by rfl):EO P g ⟨dst,.binOp .lss xt x y yt,t,pos,aft,gd⟩ Γ L (.bool (decide (a < b))):=e_bin hx hy fun w=>by simp [go_sem]
theorem e_leq (hx:ev Γ x=some (.int k a):=by rfl) (hy:ev Γ y=some (.int k b):=by rfl):EO P g ⟨dst,.binOp .leq xt x y yt,t,pos,aft,gd⟩ Γ L (.bool (decide (a≤b))):=e_bin hx hy fun w=>by simp [go_sem]
theorem e_gtr (hx:ev Γ x=some (.int k a):=by rfl) (hy:ev Γ y=some (.int k b):=by rfl):EO P g ⟨dst,.binOp .gtr xt x y yt,t,pos,aft,gd⟩ Γ L (.bool (decide (a > b))):=e_bin hx hy fun w=>by simp [go_sem]
theorem e_geq (hx:ev Γ x=some (.int k a):=by rfl) (hy:ev Γ y=some (.int k b):=by rfl):EO P g ⟨dst,.binOp .geq xt x y yt,t,pos,aft,gd⟩ Γ L (.bool (decide (a≥b))):=e_bin hx hy fun w=>by simp [go_sem]
theorem run_eqB {xt:TypeId} {p q:Bool} (ht:P.underlying xt=some .bool) (w:World):(Op.equal xt (.bool p) (.bool q)).run P w=.ok (p == q) w:=by
  unfold Op.equal;rw [show Op.maxDepth=9999+1 from rfl];unfold Op.equalIn;simp only [Sem.run_bind,run_underlying ht,Result.andThen_ok];rfl
theorem e_eqlB {p q:Bool} (ht:P.underlying xt=some .bool) (hx:ev Γ x=some (.bool p):=by rfl) (hy:ev Γ y=some (.bool q):=by rfl):EO P g ⟨dst,.binOp .eql xt x y yt,t,pos,aft,gd⟩ Γ L (.bool (p == q)):=e_bin hx hy fun w=>by
  rw [eqGuard_at_bool]
  show (do pure (Value.bool (← Op.equal xt (.bool p) (.bool q))):Sem Value).run P w=_
  rw [Sem.run_bind,run_eqB ht];rfl
end ints
theorem e_not {x:Operand} {ot:TypeId} {b:Bool} (hx:ev Γ x=some (.bool b):=by rfl):EO P g ⟨dst,.unOp .not ot x,t,pos,aft,gd⟩ Γ L (.bool !b):=
  .of (by simp) fun ρ hρ w _=>by simp [execOp,hρ x _ (by simp [Op.operands]) hx,Op.unary]
theorem e_conv {x:Operand} {s d:TypeId} {k j:IntKind} {a c:Int} (hs:(P.underlying s).isSome=true) (hd:P.underlying d=some (.int k)) (hx:ev Γ x=some (.int j a)) (h:k.wrap a=c):EO P g ⟨dst,.convert s d x,t,pos,aft,gd⟩ Γ L (.int k c):=
  .of (by simp) fun ρ hρ w _=>by
    obtain ⟨y,hy⟩:=Option.isSome_iff_exists.1 hs
    simp only [execOp,hρ x _ (by simp [Op.operands]) hx,convert,Sem.run_bind,run_underlying hy,run_underlying hd,Result.andThen_ok]
    cases y <;> simp [Conv.intToInt,h]
theorem e_nil {x:Operand} {a:Addr} (hx:ev Γ x=some (.pointer (some a)):=by rfl):EO P g ⟨dst,.nilCheck x,t,pos,aft,gd⟩ Γ L (.pointer (some a)):=
  .of (by simp) fun ρ hρ w _=>by simp [execOp,hρ x _ (by simp [Op.operands]) hx]
theorem e_fa {x:Operand} {s i b o f:Nat} (hf:fldOf P s i=some f) (hx:ev Γ x=some (.pointer (some ⟨b,o,none⟩)):=by rfl):EO P g ⟨dst,.fieldAddr s x i,t,pos,aft,gd⟩ Γ L (.pointer (some ⟨b,o+f,none⟩)):=
  .of (by simp) fun ρ hρ w _=>by
    unfold fldOf at hf
    split at hf
    case h_2=>cases hf
    case h_1 fs hu=>
      simp only [Option.bind_eq_some_iff] at hf
      obtain ⟨fd,hfd,z,hz,hf⟩:=hf
      split at hf
      · cases hf
      rename_i hne
      cases hf
      simp [execOp,hρ x _ (by simp [Op.operands]) hx,Instr.fieldAt,run_underlying hu,hfd,Instr.sureAddr,fieldPlace,run_sizeOf hz,hne,add_none]
theorem e_field1 {x:Operand} {s i o:Nat} {cs:List Value} {v:Value} (hf:partOf P s i=some (o,none)) (hx:ev Γ x=some (.agg cs.toArray):=by rfl) (hv:cs[o]?=some v:=by rfl):EO P g ⟨dst,.field s x i,t,pos,aft,gd⟩ Γ L v:=
  .of (by simp) fun ρ hρ w _=>by
    unfold partOf at hf
    split at hf
    case h_2=>cases hf
    case h_1 fs hu=>
      simp only [Option.bind_eq_some_iff,Option.map_eq_some_iff] at hf
      obtain ⟨fd,hfd,z,hz,hf⟩:=hf
      cases hf
      simp [execOp,hρ x _ (by simp [Op.operands]) hx,Instr.field,run_underlying hu,hfd,asAgg,part,run_isAgg hz,hv]
theorem e_iaA {x i:Operand} {s b o e n z j:Nat} {k:IntKind} (hs:arrOf P s=some (e,n,z)) (hj:j < n) (hx:ev Γ x=some (.pointer (some ⟨b,o,none⟩)):=by rfl) (hi:ev Γ i=some (.int k j):=by rfl) :
    EO P g ⟨dst,.indexAddr s x i,t,pos,aft,gd⟩ Γ L (.pointer (some ⟨b,o+j * z,none⟩)):=
  .of (by simp) fun ρ hρ w _=>by
    unfold arrOf at hs
    split at hs
    case h_2=>cases hs
    case h_1 hu=>
      simp only [Option.map_eq_some_iff] at hs
      obtain ⟨inf,hinf,hs⟩:=hs
      cases hs
      have hz:szOf P e=some inf.size:=by simp [szOf,hinf]
      simp [execOp,hρ x _ (by simp [Op.operands]) hx,hρ i _ (by simp [Op.operands]) hi,Instr.indexAt,Instr.sureAddr,asIntOf,run_underlying hu,run_sizeOf hz,hj,add_none]
theorem e_load {x:Operand} {u b o:Nat} {bt:TypeId} {l:List Value} {M:List HP} {v:Value} (ht:aggOf P u=some none) (hx:ev Γ x=some (.pointer (some ⟨b,o,none⟩)):=by rfl) (hp:Pick L (cl b bt l) M:=by repeat first | exact .z | apply Pick.s) (hv:l[o]?=some v:=by rfl) :
    EO P g ⟨dst,.load u x,t,pos,aft,gd⟩ Γ L v:=
  .of (by simp) fun ρ hρ w hw=>by
    simp [execOp,hρ x _ (by simp [Op.operands]) hx,Instr.loadAt,Instr.sureAddr,run_loadVar1 ht (hw.isCl hp) hv]
theorem e_loadN {x:Operand} {u b o n:Nat} {bt:TypeId} {l vs:List Value} {M:List HP} (ht:aggOf P u=some (some n)) (hx:ev Γ x=some (.pointer (some ⟨b,o,none⟩)):=by rfl) (hp:Pick L (cl b bt l) M:=by repeat first | exact .z | apply Pick.s) (hv:Ext l o n vs:=by repeat first | exact Ext.done rfl | apply Ext.here rfl rfl | apply Ext.there rfl) :
    EO P g ⟨dst,.load u x,t,pos,aft,gd⟩ Γ L (.agg vs.toArray):=
  .of (by simp) fun ρ hρ w hw=>by
    obtain ⟨hv,hle⟩:=hv.ok
    subst hv
    simp [execOp,hρ x _ (by simp [Op.operands]) hx,Instr.loadAt,Instr.sureAddr,run_loadVarN' ht (hw.isCl hp) hle]
theorem rv_cell {p b o:Nat} {u bt:TypeId} {l:List Value} {M:List HP} {v:Value} {rs:List ResultVar} {vs:List Value} (ht:aggOf P u=some none) (h:RV P g Γ L rs vs) (hx:look Γ.l p=some (.pointer (some ⟨b,o,none⟩)):=by rfl)
    (hp:Pick L (cl b bt l) M:=by repeat first | exact .z | apply Pick.s) (hv:l[o]?=some v:=by rfl):RV P g Γ L (.cell p u::rs) (v::vs):=
  ⟨v,vs,rfl,fun a w ha hw=>by simp [readRV,ha.at_ p _ hx,asAddr,run_loadVar1 ht (hw.isCl hp) hv],h⟩
theorem rv_cellN {p b o n:Nat} {u bt:TypeId} {l us:List Value} {M:List HP} {rs:List ResultVar} {vs:List Value} (ht:aggOf P u=some (some n)) (h:RV P g Γ L rs vs) (hx:look Γ.l p=some (.pointer (some ⟨b,o,none⟩)):=by rfl)
    (hp:Pick L (cl b bt l) M:=by repeat first | exact .z | apply Pick.s) (hv:Ext l o n us:=by repeat first | exact Ext.done rfl | apply Ext.here rfl rfl | apply Ext.there rfl):RV P g Γ L (.cell p u::rs) (.agg us.toArray::vs):=
  ⟨.agg us.toArray,vs,rfl,fun a w ha hw=>by obtain ⟨hv,hle⟩:=hv.ok;subst hv;simp [readRV,ha.at_ p _ hx,asAddr,run_loadVarN' ht (hw.isCl hp) hle],h⟩
def evps (Γ:Env):List (Nat × Operand)→Option (List (Nat × Value))
  | []=>some []
  | (i,x)::l=>match ev Γ x,evps Γ l with
    | some v,some m=>some ((i,v)::m)
    | _,_=>none
theorem evps_map {l:List (Nat × Operand)} {vs:List (Nat × Value)} {ρ:Operand→Value} (h:evps Γ l=some vs) (hρ:∀ x u,x ∈ l.map (·.2)→ev Γ x=some u→ρ x=u):l.map (fun (i,x)=>(i,ρ x))=vs:=by
  induction l generalizing vs with
  | nil=>simp [evps] at h;simp [h]
  | cons y l ih=>
    obtain ⟨i,x⟩:=y
    simp only [evps] at h
    cases hx:ev Γ x with
    | none=>rw [hx] at h;simp at h
    | some v=>
      cases hl:evps Γ l with
      | none=>rw [hx,hl] at h;simp at h
      | some m=>rw [hx,hl] at h;simp at h;subst h;simp [hρ x v (by simp) hx,ih hl (fun y u hy=>hρ y u (by simp at hy ⊢;exact .inr hy))]
theorem run_places:∀ (fs:List Field) (ps:List (Nat × Nat)),(fs.mapM fun f=>(szOf P f.type).map fun z=>(f.offset,z))=some ps→∀ w,((fs.mapM fun f=>do pure (f.offset,← sizeOf f.type):Sem _)).run P w=.ok ps w
  | [],ps,h,w=>by simp at h;subst h;rfl
  | f::fs,ps,h,w=>by
    simp only [List.mapM_cons] at h ⊢
    cases hz:szOf P f.type with
    | none=>rw [hz] at h;cases h
    | some z=>
      rw [hz] at h
      cases hr:(fs.mapM fun f=>(szOf P f.type).map fun z=>(f.offset,z)) with
      | none=>rw [hr] at h;cases h
      | some qs=>
        rw [hr] at h;cases h
        simp only [Sem.run_bind,run_sizeOf hz,Result.andThen_ok,Sem.run_pure,run_places fs qs hr w]
inductive Tm (Γ:Env):List Value→Prop
  | n:Tm Γ []
  | z (v:Value) {l:List Value}:Tm Γ l→Tm Γ (v::l)
  | o (x:Operand) {v:Value} {l:List Value}:ev Γ x=some v→Tm Γ l→Tm Γ (v::l)
  | a1 (x:Operand) {a:Value} {l:List Value}:ev Γ x=some (.agg #[a])→Tm Γ l→Tm Γ (a::l)
  | a2 (x:Operand) {a b:Value} {l:List Value}:ev Γ x=some (.agg #[a,b])→Tm Γ l→Tm Γ (a::b::l)
  | a3 (x:Operand) {a b c:Value} {l:List Value}:ev Γ x=some (.agg #[a,b,c])→Tm Γ l→Tm Γ (a::b::c::l)
  | a4 (x:Operand) {a b c d:Value} {l:List Value}:ev Γ x=some (.agg #[a,b,c,d])→Tm Γ l→Tm Γ (a::b::c::d::l)
theorem e_build {s:TypeId} {ps:List (Nat × Operand)} {zs:List Value} {pl:List (Nat × Nat)} {vs:List (Nat × Value)} {cs:List Value} (hz:zeroOf P s=some zs) (hpl:placesOf P s=some pl) (_:Tm Γ cs) (hv:evps Γ ps=some vs:=by rfl) (hc:Instr.fill (pl[·]?) zs.toArray vs=some cs.toArray:=by rfl) :
    EO P g ⟨dst,.build s ps.toArray,t,pos,aft,gd⟩ Γ L (.agg cs.toArray):=
  .of (by simp) fun ρ hρ w _=>by
    have h1:(ps.toArray.map fun (i,x)=>(i,ρ x))=vs.toArray:=by
      rw [← evps_map hv (fun x u hx=>hρ x u (by simpa [Op.operands] using hx))];simp
    unfold zeroOf at hz
    cases hi:(P.info? s).bind (·.zero) with
    | none=>rw [hi] at hz;cases hz
    | some zv=>
      rw [hi] at hz
      simp at hz
      have hz':zv.cells=zs.toArray:=by rw [← hz]
      unfold placesOf at hpl
      split at hpl
      case h_2=>cases hpl
      case h_1 fs hu=>
        have h2:∀ w,((fs.mapM fun f=>do pure (f.offset,← sizeOf f.type):Sem _)).run P w=.ok pl.toArray w:=fun w=>by
          rw [Array.mapM_eq_mapM_toList,Sem.run_map,run_places fs.toList pl hpl w];rfl
        have h3:(fun x:Nat=>pl.toArray[x]?)=(fun x:Nat=>pl[x]?):=by funext x;simp
        simp only [execOp,Sem.run_bind,Instr.build,run_zeroValue hi,Result.andThen_ok,run_underlying hu,h2,h1,hz',h3,hc]
        rfl
end
end Go.SL

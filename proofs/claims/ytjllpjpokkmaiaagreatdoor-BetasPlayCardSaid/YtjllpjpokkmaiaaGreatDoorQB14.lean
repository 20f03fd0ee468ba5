import Derived.Test.YtjllpjpokkmaiaaGreatDoorQB13
import Derived.Sort.AssemblyPlain
set_option linter.unusedSimpArgs false
set_option linter.unusedVariables false
set_option linter.unusedSectionVars false
namespace Go.SL
open Go Go.Proofs Go.Sort
def u32C (n:UInt32):List Value:=[.int .u32 n.toNat]
theorem u32E:EncOk 1 u32C:=⟨fun _=>rfl,fun _=>rfl⟩
def lt32 (x y:UInt32):Bool:=decide (x < y)
theorem swo32:SWO lt32 where
  irrefl x:=by simp [lt32,UInt32.lt_iff_toNat_lt]
  trans x y z h1 h2:=by simp only [lt32,decide_eq_true_eq,UInt32.lt_iff_toNat_lt] at *;omega
  ntrans x y z h1 h2:=by simp only [lt32,decide_eq_false_iff_not,UInt32.lt_iff_toNat_lt] at *;omega
theorem swp_size {α:Type} [Inhabited α] (d:Array α) (i j:Nat):(swp d i j).size=d.size:=by simp [swp]
section
variable {P : Program} {r : Option Nat} {g : World} {Γ : Env} {L M : List HP} {dst : Option Tmp} {t : TypeId} {pos : String} {aft : Array Edge} {gd : Option (Nat × Bool)} {x y : Operand} {xt yt : TypeId}
theorem ea_ia {i:Operand} {s E z j:Nat} {u:Value} {d:Array UInt32} (hs:slOf P s=some (E,1,z)) (hx:ev Γ x=some u:=by rfl) (hi:ev Γ i=some (.int .i64 (j:Nat)):=by rfl) (hp:Pick L (Sl E 1 u32C u d.toList) M:=by repeat first | exact .z | apply Pick.s)
    (hj:j < d.size:=by first | omega | (simp only [swp_size,Array.size_setIfInBounds];omega)):EO P g ⟨dst,.indexAddr s x i,t,pos,aft,gd⟩ Γ L (elA u (j * 1)):=
  el_ia (xs:=d.toList) (enc:=u32C) hs sl_rl (by rw [Array.length_toList];exact hj) hx hi hp
theorem get_arr {d:Array UInt32} {j:Nat} (h:j < d.size):d.toList[j]?=some d[j]!:=by
  rw [Array.getElem?_toList,Array.getElem?_eq_getElem h,getElem!_pos d j h]
theorem ea_load {T E j:Nat} {u:Value} {d:Array UInt32} (ht:aggOf P T=some none) (hx:ev Γ x=some (elA u (j * 1)):=by rfl) (hp:Pick L (Sl E 1 u32C u d.toList) M:=by repeat first | exact .z | apply Pick.s)
    (hj:j < d.size:=by first | omega | (simp only [swp_size,Array.size_setIfInBounds];omega)):EO P g ⟨dst,.load T x,t,pos,aft,gd⟩ Γ L (.int .u32 (d[j]!).toNat):=
  el_load0 (xs:=d.toList) (a:=d[j]!) ht u32E sl_rl (get_arr hj) (by decide) hx rfl hp
theorem ha_store {T E j:Nat} {v:Operand} {u:Value} {d:Array UInt32} {a:UInt32} {N:List HP} {K:Value→List HP→Prop} (hT:szOf P T=some 1) (hK:K (.tuple #[]) N) (hx:ev Γ x=some (elA u (j * 1)):=by rfl) (hv:ev Γ v=some (.int .u32 a.toNat):=by rfl)
    (hp:Put L (Sl E 1 u32C u d.toList) (Sl E 1 u32C u (d.setIfInBounds j a).toList) N:=by repeat first | exact .z | apply Put.s) (hj:j < d.size:=by first | omega | (simp only [swp_size,Array.size_setIfInBounds];omega)):HO P r g ⟨dst,.store T x v,t,pos,aft,gd⟩ Γ L K:=
  hl_store (xs:=d.toList) (enc:=u32C) (E:=E) a hT u32E (by rw [Array.length_toList];exact hj) hK (by decide) hx hv rfl (by rw [← Array.toList_setIfInBounds];exact hp)
theorem e_addN {a b:Nat} (hx:ev Γ x=some (.int .i64 a):=by rfl) (hy:ev Γ y=some (.int .i64 b):=by rfl) (h:a+b≤4611686018427387904:=by omega):EO P g ⟨dst,.binOp .add xt x y yt,t,pos,aft,gd⟩ Γ L (.int .i64 ((a+b:Nat):Int)):=
  e_add hx hy (by rw [w_i64 (by omega) (by omega)];omega)
theorem e_subN {a b:Nat} (hx:ev Γ x=some (.int .i64 a):=by rfl) (hy:ev Γ y=some (.int .i64 b):=by rfl) (hle:b≤a:=by omega) (h:a≤4611686018427387904:=by omega):EO P g ⟨dst,.binOp .sub xt x y yt,t,pos,aft,gd⟩ Γ L (.int .i64 ((a - b:Nat):Int)):=
  e_sub hx hy (by rw [w_i64 (by omega) (by omega)];omega)
theorem e_mulN {a b:Nat} (hx:ev Γ x=some (.int .i64 a):=by rfl) (hy:ev Γ y=some (.int .i64 b):=by rfl) (h:a * b≤4611686018427387904:=by omega):EO P g ⟨dst,.binOp .mul xt x y yt,t,pos,aft,gd⟩ Γ L (.int .i64 ((a * b:Nat):Int)):=
  e_mul hx hy (by rw [← Int.natCast_mul];exact w_i64 (by omega) (by omega))
theorem e_quoN {a b:Nat} (hx:ev Γ x=some (.int .i64 a):=by rfl) (hy:ev Γ y=some (.int .i64 b):=by rfl) (hb:0 < b:=by decide) (h:a≤4611686018427387904:=by omega):EO P g ⟨dst,.binOp .quo xt x y yt,t,pos,aft,gd⟩ Γ L (.int .i64 ((a / b:Nat):Int)):=
  e_quo hx hy (by omega) (by
    have h2:=Nat.div_le_self a b
    rw [Int.tdiv_eq_ediv_of_nonneg (by omega),← Int.natCast_ediv]
    generalize a / b=q at h2 ⊢
    exact w_i64 (by omega) (by omega))
end
section
variable {d : Array UInt32} {a b i j : Nat}
abbrev lt:=lt32
theorem ins_step (h1:a < j) (h2:lt32 d[j]! d[j - 1]! = true):insInner lt32 a j d=insInner lt32 a (j - 1) (swp d j (j - 1)):=by
  obtain ⟨k,rfl⟩:∃ k,j=k+1:=⟨j - 1,by omega⟩
  rw [Nat.add_sub_cancel] at h2 ⊢
  rw [insInner,if_pos (by simp [h2];omega)]
theorem ins_stop (h:a < j→lt32 d[j]! d[j - 1]! = false):insInner lt32 a j d=d:=by
  cases j with
  | zero=>rfl
  | succ k=>
    rw [Nat.add_sub_cancel] at h
    rw [insInner,if_neg]
    intro hh
    simp only [Bool.and_eq_true,decide_eq_true_eq] at hh
    rw [h hh.1] at hh;cases hh.2
theorem insO_step (h:i < b):insOuter lt32 a b i d=insOuter lt32 a b (i+1) (insInner lt32 a i d):=by rw [insOuter,if_pos h]
theorem insO_stop (h:¬ i < b):insOuter lt32 a b i d=d:=by rw [insOuter,if_neg h]
theorem sd_stop {hi first root:Nat} (h:2 * root+1≥hi):siftDown lt32 hi first root d=d:=by rw [siftDown,dif_pos h]
theorem sd_r {hi first root:Nat} (h:¬ 2 * root+1≥hi) (h2:2 * root+1+1 < hi) (h3:lt32 d[first+(2 * root+1)]! d[first+(2 * root+1)+1]! = true) :
    siftDown lt32 hi first root d=if lt32 d[first+root]! d[first+(2 * root+1+1)]! = true then siftDown lt32 hi first (2 * root+1+1) (swp d (first+root) (first+(2 * root+1+1))) else d:=by
  rw [siftDown,dif_neg h,if_pos (by simp [h2,h3])]
  have h4:2 * root+2 < hi:=h2
  cases e:lt32 d[first+root]! d[first+(2 * root+1+1)]! with
  | true=>
    rw [if_neg (by simp),dif_pos h4,if_pos rfl]
  | false=>
    rw [if_pos (by simp),if_neg (by simp)]
theorem sd_l {hi first root:Nat} (h:¬ 2 * root+1≥hi) (h3:2 * root+1+1 < hi→lt32 d[first+(2 * root+1)]! d[first+(2 * root+1)+1]! = false) :
    siftDown lt32 hi first root d=if lt32 d[first+root]! d[first+(2 * root+1)]! = true then siftDown lt32 hi first (2 * root+1) (swp d (first+root) (first+(2 * root+1))) else d:=by
  rw [siftDown,dif_neg h,if_neg (by intro hh;simp only [Bool.and_eq_true,decide_eq_true_eq] at hh;rw [h3 hh.1] at hh;cases hh.2)]
  cases e:lt32 d[first+root]! d[first+(2 * root+1)]! <;> simp
theorem sd_size {hi first:Nat}:∀ (n root:Nat) (d:Array UInt32),hi - root≤n→(siftDown lt32 hi first root d).size=d.size
  | 0,root,d,h=>by rw [sd_stop (by omega)]
  | n+1,root,d,h=>by
    by_cases h1:2 * root+1≥hi
    · rw [sd_stop h1]
    · by_cases h2:2 * root+1+1 < hi∧lt32 d[first+(2 * root+1)]! d[first+(2 * root+1)+1]! = true
      · rw [sd_r h1 h2.1 h2.2]
        split
        · rw [sd_size n _ _ (by omega),swp_size]
        · rfl
      · rw [sd_l h1 (fun h=>by cases e:lt32 d[first+(2 * root+1)]! d[first+(2 * root+1)+1]! with
          | true=>exact absurd ⟨h,e⟩ h2
          | false=>rfl)]
        split
        · rw [sd_size n _ _ (by omega),swp_size]
        · rfl
theorem sdn_size {hi first root:Nat} {d:Array UInt32}:(siftDown lt32 hi first root d).size=d.size:=sd_size _ _ _ (Nat.le_refl _)
theorem rev_step (h:i < j):reverseLoop i j d=reverseLoop (i+1) (j - 1) (swp d i j):=by rw [reverseLoop,if_pos h]
theorem rev_stop (h:¬ i < j):reverseLoop i j d=d:=by rw [reverseLoop,if_neg h]
theorem nt {b:Bool} (h:(!b)=true):b=false:=by cases b <;> simp_all
theorem nf {b:Bool} (h:(!b)=false):b=true:=by cases b <;> simp_all
theorem ord_t {sw:Nat} (h:lt32 d[b]! d[a]! = true):order2 lt32 d a b sw=(b,a,sw+1):=by rw [order2,if_pos h]
theorem ord_f {sw:Nat} (h:lt32 d[b]! d[a]! = false):order2 lt32 d a b sw=(a,b,sw):=by rw [order2,if_neg (by rw [h];simp)]
theorem ord_lt {n sw:Nat} (ha:a < n) (hb:b < n):(order2 lt32 d a b sw).1 < n∧(order2 lt32 d a b sw).2.1 < n∧(order2 lt32 d a b sw).2.2≤sw+1:=by
  cases h:lt32 d[b]! d[a]! with
  | true=>rw [ord_t h];exact ⟨hb,ha,Nat.le_refl _⟩
  | false=>rw [ord_f h];exact ⟨ha,hb,Nat.le_succ _⟩
theorem med_lt {n sw c:Nat} (ha:a < n) (hb:b < n) (hc:c < n):(median lt32 d a b c sw).1 < n∧(median lt32 d a b c sw).2≤sw+3:=by
  obtain ⟨h1,h2,h3⟩:=ord_lt (d:=d) (sw:=sw) ha hb
  obtain ⟨h4,h5,h6⟩:=ord_lt (d:=d) (sw:=(order2 lt32 d a b sw).2.2) h2 hc
  obtain ⟨h7,h8,h9⟩:=ord_lt (d:=d) (sw:=(order2 lt32 d (order2 lt32 d a b sw).2.1 c (order2 lt32 d a b sw).2.2).2.2) h1 h4
  exact ⟨h8,by show (order2 lt32 d _ _ _).2.2≤_;omega⟩
def cpH (n:Nat):Hint:=if n=0 then .increasing else if n=12 then .decreasing else .unknown
def hv:Hint→Nat
  | .unknown=>0
  | .increasing=>1
  | .decreasing=>2
theorem cp1 (h:¬ b - a≥8):choosePivot lt32 d a b=(a+(b - a) / 4 * 2,cpH 0):=by unfold choosePivot;simp only [h,if_false];rfl
theorem cp2 (h:b - a≥8) (h2:¬ b - a≥50):choosePivot lt32 d a b=((median lt32 d (a+(b - a) / 4 * 1) (a+(b - a) / 4 * 2) (a+(b - a) / 4 * 3) 0).1,cpH (median lt32 d (a+(b - a) / 4 * 1) (a+(b - a) / 4 * 2) (a+(b - a) / 4 * 3) 0).2):=by unfold choosePivot;simp only [h,h2,if_true,if_false];rfl
theorem cp3 (h:b - a≥8) (h2:b - a≥50) {r1 r2 r3 r4:Nat × Nat} (e1:medianAdjacent lt32 d (a+(b - a) / 4 * 1) 0=r1) (e2:medianAdjacent lt32 d (a+(b - a) / 4 * 2) r1.2=r2) (e3:medianAdjacent lt32 d (a+(b - a) / 4 * 3) r2.2=r3) (e4:median lt32 d r1.1 r2.1 r3.1 r3.2=r4):choosePivot lt32 d a b=(r4.1,cpH r4.2):=by
  subst e1 e2 e3 e4
  unfold choosePivot;simp only [h,h2,if_true];rfl
theorem up_step {p:UInt32→Bool} (h:i≤j) (h2:p d[i]! = true):scanUp p d j i=scanUp p d j (i+1):=by rw [scanUp,if_pos (by simp [h,h2])]
theorem up_stop {p:UInt32→Bool} (h:i≤j→p d[i]! = false):scanUp p d j i=i:=by
  rw [scanUp,if_neg]
  intro hh
  simp only [Bool.and_eq_true,decide_eq_true_eq] at hh
  rw [h hh.1] at hh;cases hh.2
theorem down_step {p:UInt32→Bool} (h0:1≤j) (h:i≤j) (h2:p d[j]! = true):scanDown p d i j=scanDown p d i (j - 1):=by
  obtain ⟨k,rfl⟩:∃ k,j=k+1:=⟨j - 1,by omega⟩
  rw [scanDown,if_pos (by simp [h,h2])];rfl
theorem down_stop {p:UInt32→Bool} (h:i≤j→p d[j]! = false):scanDown p d i j=j:=by
  cases j with
  | zero=>rfl
  | succ k=>
    rw [scanDown,if_neg]
    intro hh
    simp only [Bool.and_eq_true,decide_eq_true_eq] at hh
    rw [h hh.1] at hh;cases hh.2
theorem part_stop {i2 j2:Nat} (e1:scanUp (fun x=>lt32 x d[a]!) d j i=i2) (e2:scanDown (fun x=>!lt32 x d[a]!) d i2 j=j2) (h:i2 > j2):partLoop lt32 a i j d=(j2,d):=by
  subst e1 e2;rw [partLoop];simp only [h,if_true]
theorem part_step {i2 j2:Nat} (e1:scanUp (fun x=>lt32 x d[a]!) d j i=i2) (e2:scanDown (fun x=>!lt32 x d[a]!) d i2 j=j2) (h:¬ i2 > j2) (hg:(j2 - 1)+1 - (i2+1) < j+1 - i):partLoop lt32 a i j d=partLoop lt32 a (i2+1) (j2 - 1) (swp d i2 j2):=by
  subst e1 e2;rw [partLoop];simp only [h,if_false];rw [dif_pos hg]
theorem parte_stop {i2 j2:Nat} (e1:scanUp (fun x=>!lt32 d[a]! x) d j i=i2) (e2:scanDown (fun x=>lt32 d[a]! x) d i2 j=j2) (h:i2 > j2):partEqLoop lt32 a i j d=(i2,d):=by
  subst e1 e2;rw [partEqLoop];simp only [h,if_true]
theorem parte_step {i2 j2:Nat} (e1:scanUp (fun x=>!lt32 d[a]! x) d j i=i2) (e2:scanDown (fun x=>lt32 d[a]! x) d i2 j=j2) (h:¬ i2 > j2) (hg:(j2 - 1)+1 - (i2+1) < j+1 - i):partEqLoop lt32 a i j d=partEqLoop lt32 a (i2+1) (j2 - 1) (swp d i2 j2):=by
  subst e1 e2;rw [partEqLoop];simp only [h,if_false];rw [dif_pos hg]
theorem partition_t {pv i1 j1:Nat} {d0:Array UInt32} (e0:swp d a pv=d0) (e1:scanUp (fun x=>lt32 x d0[a]!) d0 (b - 1) (a+1)=i1) (e2:scanDown (fun x=>!lt32 x d0[a]!) d0 i1 (b - 1)=j1) (h:i1 > j1):partition lt32 d a b pv=(j1,true,swp d0 j1 a):=by
  subst e0 e1 e2;unfold partition;simp only [h,if_true]
theorem partition_f {pv i1 j1:Nat} {d0:Array UInt32} (e0:swp d a pv=d0) (e1:scanUp (fun x=>lt32 x d0[a]!) d0 (b - 1) (a+1)=i1) (e2:scanDown (fun x=>!lt32 x d0[a]!) d0 i1 (b - 1)=j1) (h:¬ i1 > j1) {r:Nat × Array UInt32} (e3:partLoop lt32 a (i1+1) (j1 - 1) (swp d0 i1 j1)=r):partition lt32 d a b pv=(r.1,false,swp r.2 r.1 a):=by
  subst e0 e1 e2 e3;unfold partition;simp only [h,if_false]
theorem sorted_step (h:i < b) (h2:lt32 d[i]! d[i - 1]! = false):scanSorted lt32 d b i=scanSorted lt32 d b (i+1):=by rw [scanSorted,if_pos (by simp [h,h2])]
theorem sorted_stop (h:i < b→lt32 d[i]! d[i - 1]! = true):scanSorted lt32 d b i=i:=by
  rw [scanSorted,if_neg]
  intro hh
  simp only [Bool.and_eq_true,decide_eq_true_eq,Bool.not_eq_true'] at hh
  rw [h hh.1] at hh;cases hh.2
theorem sdown_step (h:1≤j) (h2:lt32 d[j]! d[j - 1]! = true):shiftDown lt32 j d=shiftDown lt32 (j - 1) (swp d j (j - 1)):=by
  obtain ⟨k,rfl⟩:∃ k,j=k+1:=⟨j - 1,by omega⟩
  rw [Nat.add_sub_cancel] at h2 ⊢
  rw [shiftDown,if_neg (by simp [h2])]
theorem sdown_stop (h:1≤j→lt32 d[j]! d[j - 1]! = false):shiftDown lt32 j d=d:=by
  cases j with
  | zero=>rfl
  | succ k=>
    have:=h (by omega)
    rw [Nat.add_sub_cancel] at this
    rw [shiftDown,if_pos (by simp [this])]
theorem sup_step (h:j < b) (h2:lt32 d[j]! d[j - 1]! = true):shiftUp lt32 b j d=shiftUp lt32 b (j+1) (swp d j (j - 1)):=by rw [shiftUp,if_pos h,if_neg (by simp [h2])]
theorem sup_stop (h:j < b→lt32 d[j]! d[j - 1]! = false):shiftUp lt32 b j d=d:=by
  rw [shiftUp]
  split
  · rename_i hb;rw [if_pos (by simp [h hb])]
  · rfl
theorem pins_t {s i2:Nat} (e:scanSorted lt32 d b i=i2) (h:i2=b):partialIns lt32 a b (s+1) i d=(d,true):=by subst e;rw [partialIns];simp only [h,if_true]
theorem pins_f {s i2:Nat} (e:scanSorted lt32 d b i=i2) (h:¬ i2=b) (h2:b - a < 50):partialIns lt32 a b (s+1) i d=(d,false):=by subst e;rw [partialIns];simp only [h,h2,if_true,if_false]
theorem pins_s {s i2:Nat} {d2 d3:Array UInt32} (e:scanSorted lt32 d b i=i2) (h:¬ i2=b) (h2:¬ b - a < 50) (e2:(if i2 - a≥2 then shiftDown lt32 (i2 - 1) (swp d i2 (i2 - 1)) else swp d i2 (i2 - 1))=d2) (e3:(if b - i2≥2 then shiftUp lt32 b (i2+1) d2 else d2)=d3) :
    partialIns lt32 a b (s+1) i d=partialIns lt32 a b s i2 d3:=by subst e e2 e3;rw [partialIns];simp only [h,h2,if_false]
end
theorem wu64 (n:Nat):IntKind.u64.wrap (n:Int)=((UInt64.ofNat n).toNat:Int):=by simp [IntKind.wrap,IntKind.bits,IntKind.signed]
theorem bv64 (a:UInt64):BitVec.ofInt IntKind.u64.bits (a.toNat:Int)=a.toBitVec:=by
  show BitVec.ofInt 64 _=_
  apply BitVec.eq_of_toNat_eq;simp
theorem back64 (x:BitVec 64):IntKind.u64.wrap (x.toNat:Int)=((⟨x⟩:UInt64).toNat:Int):=by
  rw [wu64];congr 1;show (UInt64.ofNat x.toNat).toNat=x.toNat;simp
theorem bxor64 (a b:UInt64):bits .xor .u64 (a.toNat:Int) (b.toNat:Int)=((a ^^^ b).toNat:Int):=by unfold bits;simp only [bv64];exact back64 _
theorem band64 (a b:UInt64):bits .and .u64 (a.toNat:Int) (b.toNat:Int)=((a &&& b).toNat:Int):=by unfold bits;simp only [bv64];exact back64 _
section
variable {P : Program} {r : Option Nat} {g : World} {Γ : Env} {L M : List HP} {dst : Option Tmp} {t : TypeId} {pos : String} {aft : Array Edge} {gd : Option (Nat × Bool)} {x y : Operand} {xt yt : TypeId} {a b : UInt64}
theorem e_xor64 (hx:ev Γ x=some (.int .u64 a.toNat):=by rfl) (hy:ev Γ y=some (.int .u64 b.toNat):=by rfl):EO P g ⟨dst,.binOp .xor xt x y yt,t,pos,aft,gd⟩ Γ L (.int .u64 (a ^^^ b).toNat):=e_bits (by simp) hx hy (bxor64 a b)
theorem e_and64 {m:Nat} (hm:m < 18446744073709551616) (hx:ev Γ x=some (.int .u64 a.toNat):=by rfl) (hy:ev Γ y=some (.int .u64 (m:Nat)):=by rfl):EO P g ⟨dst,.binOp .and xt x y yt,t,pos,aft,gd⟩ Γ L (.int .u64 ((a.toNat &&& m:Nat):Int)):=
  e_bits (by simp) hx hy (by
    have h:(UInt64.ofNat m).toNat=m:=by rw [UInt64.toNat_ofNat'];exact Nat.mod_eq_of_lt hm
    rw [← h,band64,UInt64.toNat_and])
theorem e_shl64 {k':IntKind} {m:UInt64} (hm:m.toNat < 64) (hx:ev Γ x=some (.int .u64 a.toNat):=by rfl) (hy:ev Γ y=some (.int k' m.toNat):=by rfl):EO P g ⟨dst,.binOp .shl xt x y yt,t,pos,aft,gd⟩ Γ L (.int .u64 (a <<< m).toNat):=
  e_shl hx hy (by omega) (by simp [IntKind.bits];omega) (by
    rw [UInt64.toNat_shiftLeft,Nat.mod_eq_of_lt hm,Nat.shiftLeft_eq];simp [IntKind.wrap,IntKind.bits,IntKind.signed])
theorem e_shr64 {k':IntKind} {m:UInt64} (hm:m.toNat < 64) (hx:ev Γ x=some (.int .u64 a.toNat):=by rfl) (hy:ev Γ y=some (.int k' m.toNat):=by rfl):EO P g ⟨dst,.binOp .shr xt x y yt,t,pos,aft,gd⟩ Γ L (.int .u64 (a >>> m).toNat):=
  e_shr hx hy (by omega) (by simp [IntKind.bits];omega) (by rw [UInt64.toNat_shiftRight,Nat.mod_eq_of_lt hm,Nat.shiftRight_eq_div_pow];simp)
end
theorem tab_all (s:ByteArray) (h:((List.range 256).all fun i=>s[i]? == some (UInt8.ofNat (bitsLen i)))=true) {i:Nat} (hi:i < 256):s[i]?=some (UInt8.ofNat (bitsLen i)):=by
  have:=List.all_eq_true.1 h i (List.mem_range.2 hi)
  simpa using this
theorem log2_shr:∀ (k x:Nat),2 ^ k≤x→Nat.log2 x=k+Nat.log2 (x / 2 ^ k)
  | 0,x,_=>by simp
  | k+1,x,h=>by
    have h2:2≤x:=Nat.le_trans (by rw [Nat.pow_succ];have:=Nat.one_le_two_pow (n:=k);omega) h
    have h3:2 ^ k≤x / 2:=by rw [Nat.pow_succ] at h;omega
    rw [Nat.log2_def,if_pos h2,log2_shr k (x / 2) h3,Nat.div_div_eq_div_mul,Nat.pow_succ,Nat.mul_comm 2]
    omega
theorem bitsLen_shr (k x:Nat) (h:2 ^ k≤x):bitsLen x=k+bitsLen (x / 2 ^ k):=by
  have h0:0 < 2 ^ k:=Nat.two_pow_pos k
  have h1:0 < x / 2 ^ k:=Nat.div_pos h h0
  unfold bitsLen
  rw [if_neg (by omega),if_neg (by omega),log2_shr k x h];omega
theorem bitsLen_lt {k x:Nat} (h:x < 2 ^ k):bitsLen x≤k:=by
  unfold bitsLen
  split
  · exact Nat.zero_le _
  · rename_i h0;have:=(Nat.log2_lt h0).2 h;omega
theorem bitsLen_pow {x:Nat} (h:0 < x):2 ^ bitsLen x≤2 * x:=by
  unfold bitsLen
  rw [if_neg (by omega),Nat.pow_succ]
  have:=Nat.log2_self_le (n:=x) (by omega)
  omega
section
variable {d : Array UInt32} {a b i j : Nat}
def brk (a n m:Nat) (st:UInt64 × Array UInt32) (i:Nat):Nat→UInt64 × Array UInt32
  | 0=>st
  | k+1=>breakStep a n m (brk a n m st i k) (i+k)
theorem brk_eq (h:b - a≥8):breakPatterns d a b=(brk a (b - a) (2 ^ bitsLen (b - a)) (UInt64.ofNat (b - a),d) (a+(b - a) / 4 * 2 - 1) 3).2:=by
  unfold breakPatterns
  simp only [h,if_true,Nat.shiftLeft_eq,Nat.one_mul];rfl
theorem brk_no (h:¬ b - a≥8):breakPatterns d a b=d:=by unfold breakPatterns;simp only [h,if_false]
theorem sort_done {xs:List UInt32} {d':Array UInt32} (p1:PermIn 0 xs.length xs.toArray d') (p2:SortedIn lt32 0 xs.length d'):d'.toList.Perm xs∧d'.toList.Pairwise fun x y=>x≤y:=by
  have hsz:d'.size=xs.length:=by rw [p1.1];simp
  constructor
  · have h:=p1.2.2
    rw [← hsz,Array.extract_size] at h
    have e:(xs.toArray.extract 0 d'.size).toList=xs:=by rw [hsz];simp
    rw [e] at h;exact h
  · rw [List.pairwise_iff_getElem]
    intro i j hi hj hij
    rw [Array.length_toList] at hi hj
    have:=p2 i j (Nat.zero_le _) hij (by omega)
    rw [getElem!_pos d' i (by omega),getElem!_pos d' j (by omega)] at this
    simp only [Array.getElem_toList]
    simp only [lt32,decide_eq_false_iff_not] at this
    exact UInt32.not_lt.1 this
theorem sl_map {α β:Type} {E z:Nat} {enc:β→List Value} {f:α→β} {u:Value} {xs:List α} {S:Piece} (h:Sl E z (fun x=>enc (f x)) u xs S):Sl E z enc u (xs.map f) S:=by
  unfold Sl at h ⊢
  rw [List.length_map,List.flatMap_map];exact h
end
end Go.SL
namespace Go.SL.Fc
open Go Go.Proofs Go.SL
theorem k231:callable Tryz.prog 231=true:=by kernel_rfl
theorem k252:callable Tryz.prog 252=true:=by kernel_rfl
theorem k253:callable Tryz.prog 253=true:=by kernel_rfl
theorem k254:callable Tryz.prog 254=true:=by kernel_rfl
theorem k255:callable Tryz.prog 255=true:=by kernel_rfl
theorem k265:callable Tryz.prog 265=true:=by kernel_rfl
theorem sl67:slOf Tryz.prog 67=some (48,1,4):=by kernel_rfl
theorem z3:zeroOf Tryz.prog 3=some [.int .i64 0]:=by kernel_rfl
end Go.SL.Fc
namespace Go.SL
open Go Go.Proofs Fc
open Go.Sort
theorem isNaN32_spec {g:World} (x:UInt32):Spec Tryz.prog g 255 [.int .u32 x.toNat] [] fun K R=>K (.bool false) R:=by
 refine Spec.intro Tryz.func255 rfl Tryz.ntmps255 rfl fun R K hK=>?_
 refine WP.seq<|WP.reg<|WL.e e_assign<|WL.next<|WP.seq<|WP.reg<|WL.e e_move<|WL.e e_move<|WL.e (e_neq32)<|WL.e e_assign<|WL.next<|WP.ret ?_
 exact PO.finE Tryz.results255 (rv_tmp rv_nil) (by simp) hK
theorem Less32_spec {g:World} (x y:UInt32):Spec Tryz.prog g 231 [.int .u32 x.toNat,.int .u32 y.toNat] [] fun K R=>K (.bool (lt32 x y)) R:=by
 refine Spec.intro Tryz.func231 rfl Tryz.ntmps231 rfl fun R K hK=>?_
 refine WP.seq<|WP.reg<|WL.e e_assign<|WL.next<|WP.seq<|WP.reg<|WL.e e_move ?_
 refine WL.h (h_call (isNaN32_spec _) k255 ?_)
 refine WL.e e_move ?_
 refine WL.bool 7 rfl (fun h=>?_) (fun h=>?_)
 ·cases h 
 ·skip
  refine WL.skip<|WL.skip<|WL.skip<|WL.e e_pick_f<|WL.e e_move<|WL.e e_move<|WL.e e_move<|WL.e (e_lss32)<|WL.e e_pick_f<|WL.e e_assign<|WL.next<|WP.ret ?_
  exact PO.fin Tryz.results231 (rv_tmp rv_nil) hK
theorem Ins32_spec {g:World} {u:Value} (d:Array UInt32) (a b:Nat) (hb:b≤d.size) (ha:a≤d.size) (hn:d.size≤68719476736):Spec Tryz.prog g 225 [u,.int .i64 a,.int .i64 b] [Sl 48 1 u32C u (d).toList] fun K R=>K (.tuple #[]) (Sl 48 1 u32C u (insertionSort lt32 d a b).toList::R):=by
 refine Spec.intro Tryz.func225 rfl Tryz.ntmps225 rfl fun R K hK=>?_
 refine WP.seq<|WP.reg<|WL.e e_move<|WL.e (e_addN (b:=1))<|WL.e e_assign<|WL.next<|WP.block<|WP.loopK (fun (x:Nat × Array UInt32)=>[(6,.int .i64 x.1)]) (fun (x:Nat × Array UInt32)=>Sl 48 1 u32C u (x.2).toList::R) [(0,_),(1,_),(2,_)] (fun (x:Nat × Array UInt32)=>x.2.size=d.size∧a < x.1∧(x.1≤a+1∨x.1≤b)∧insOuter lt32 a b x.1 x.2=insertionSort lt32 d a b) (fun (x:Nat × Array UInt32)=>b - x.1) (a+1,d) (⟨rfl,by simp only;omega,by simp only;omega,rfl⟩) ?_
 rintro ⟨i,d1⟩ ⟨hs,hi1,hi2,he⟩
 simp only at hs hi1 hi2 he
 dsimp only
 refine WP.seq<|WP.seq<|WP.reg<|WL.e e_move<|WL.e e_move<|WL.e e_lss<|WL.next ?_
 refine WP.cond rfl (fun h1=>?_) (fun h1=>?_)
 ·replace h1:i < b:=by rw [decide_eq_true_eq] at h1;omega
  refine WP.skip<|PO.next<|WP.seq<|WP.block<|WP.seq<|WP.reg<|WL.e e_move<|WL.e e_assign<|WL.next<|WP.block<|WP.loopK (fun (x:Nat × Array UInt32)=>[(7,.int .i64 x.1)]) (fun (x:Nat × Array UInt32)=>Sl 48 1 u32C u (x.2).toList::R) [(0,_),(1,_),(2,_),(6,_),(10,_),(11,_),(12,_),(15,_)] (fun (x:Nat × Array UInt32)=>x.2.size=d.size∧a≤x.1∧x.1≤i∧insInner lt32 a x.1 x.2=insInner lt32 a i d1) (fun (x:Nat × Array UInt32)=>x.1) (i,d1) (⟨hs,by simp only;omega,Nat.le_refl _,rfl⟩) ?_
  rintro ⟨j,d2⟩ ⟨hs2,hj1,hj2,he2⟩
  simp only at hs2 hj1 hj2 he2
  dsimp only
  refine WP.seq<|WP.seq<|WP.draws mixedOk 15<|RW.e 0 rfl e_move<|RW.e 1 rfl e_move<|RW.e 2 rfl e_gtr<|RW.e 3 rfl e_move ?_
  refine RW.bool 19 rfl (fun g=>?_) (fun g=>?_)
  ·have hgj:a < j:=by rw [decide_eq_true_eq] at g;omega
   refine RW.e 4 rfl e_move<|RW.e 5 rfl e_move<|RW.e 6 rfl (ea_ia sl67)<|RW.e 7 rfl (ea_load a48)<|RW.e 8 rfl e_move<|RW.e 9 rfl e_move<|RW.e 10 rfl (e_subN (b:=1))<|RW.e 11 rfl (ea_ia sl67)<|RW.e 12 rfl (ea_load a48) ?_
   refine RW.any (is:=[13]) rfl ⟨?_,trivial⟩
   refine RWat.h rfl rfl rfl ?_
   refine (h_call (Less32_spec _ _) k231 ?_)
   refine ⟨trivial,?_⟩
   refine RW.e 14 rfl e_pick_t<|RW.done<|PO.next ?_
   refine WP.cond rfl (fun h3=>?_) (fun h3=>?_)
   ·skip
    refine WP.skip<|PO.next<|WP.seq<|WP.block<|WP.draws mixedOk 18<|RW.e 0 rfl e_move<|RW.e 1 rfl e_move<|RW.e 2 rfl e_move<|RW.e 3 rfl e_move<|RW.e 4 rfl (e_subN (b:=1))<|RW.e 5 rfl e_move<|RW.e 6 rfl e_move<|RW.e 7 rfl (e_subN (b:=1))<|RW.e 8 rfl (ea_ia sl67)<|RW.e 9 rfl (ea_load a48)<|RW.e 10 rfl e_move<|RW.e 11 rfl e_move<|RW.e 12 rfl (ea_ia sl67)<|RW.e 13 rfl (ea_load a48)<|RW.e 14 rfl (ea_ia sl67) ?_
    refine RW.any (is:=[15]) rfl ⟨?_,trivial⟩
    refine RWat.h' rfl rfl rfl ?_
    refine (ha_store s48 ?_)
    refine ⟨⟨⟨_,rfl,.inl ⟨rfl,(e_subN (b:=1))⟩⟩,⟨_,rfl,.inl ⟨rfl,e_move⟩⟩,⟨_,rfl,.inl ⟨rfl,e_move⟩⟩,trivial⟩,?_⟩
    refine RW.e 16 rfl (ea_ia sl67) ?_
    refine RW.any (is:=[17]) rfl ⟨?_,trivial⟩
    refine RWat.h' rfl rfl rfl ?_
    refine (ha_store s48 ?_)
    refine ⟨trivial,?_⟩
    refine RW.done<|PO.blockN<|PO.next<|WP.reg<|WL.e e_move<|WL.e (e_subN (b:=1))<|WL.e e_assign<|WL.nil ?_
    exact PO.againK (j - 1,swp d2 j (j - 1)) ⟨by simp only [swp_size];omega,by simp only;omega,by simp only;omega,by simp only;rw [← he2,ins_step hgj h3]⟩ (by simp only;omega)
   ·skip
    refine WP.exit<|PO.past nofun<|PO.round nofun<|PO.blockX<|PO.blockN<|PO.next<|WP.reg<|WL.e e_move<|WL.e (e_addN (b:=1))<|WL.e e_assign<|WL.nil ?_
    exact PO.againK (i+1,d2) ⟨by simp only;omega,by simp only;omega,by simp only;omega,by simp only;rw [← he,insO_step h1,← he2,ins_stop (fun _=>h3)]⟩ (by simp only;omega)
  ·have hgj:¬ a < j:=by rw [decide_eq_false_iff_not] at g;omega
   refine RW.skip 4 rfl<|RW.skip 5 rfl<|RW.skip 6 rfl<|RW.skip 7 rfl<|RW.skip 8 rfl<|RW.skip 9 rfl<|RW.skip 10 rfl<|RW.skip 11 rfl<|RW.skip 12 rfl<|RW.skip 13 rfl<|RW.e 14 rfl e_pick_f<|RW.done<|PO.next<|WP.cond_f rfl<|WP.exit<|PO.past nofun<|PO.round nofun<|PO.blockX<|PO.blockN<|PO.next<|WP.reg<|WL.e e_move<|WL.e (e_addN (b:=1))<|WL.e e_assign ?_
   refine WL.nil ?_
   exact PO.againK (i+1,d2) ⟨by simp only;omega,by simp only;omega,by simp only;omega,by simp only;rw [← he,insO_step h1,← he2,ins_stop (fun hh=>absurd hh (by omega))]⟩ (by simp only;omega)
 ·replace h1:¬ i < b:=by rw [decide_eq_false_iff_not] at h1;omega
  refine WP.exit<|PO.past nofun<|PO.round nofun<|PO.blockX ?_
  rw [insO_stop h1] at he
  rw [← he] at hK
  exact PO.fin Tryz.results225 rv_nil hK
set_option maxHeartbeats 1000000 in
theorem Sift32_spec {g:World} {u:Value} (d:Array UInt32) (root hi fs:Nat) (hb:fs+hi≤d.size) (hr:root≤d.size) (hn:d.size≤68719476736):Spec Tryz.prog g 252 [u,.int .i64 root,.int .i64 hi,.int .i64 fs] [Sl 48 1 u32C u (d).toList] fun K R=>K (.tuple #[]) (Sl 48 1 u32C u (siftDown lt32 hi fs root d).toList::R):=by
 refine Spec.intro Tryz.func252 rfl Tryz.ntmps252 rfl fun R K hK=>?_
 refine WP.seq<|WP.reg<|WL.e e_move<|WL.e e_assign<|WL.next<|WP.block<|WP.loopK (fun (x:Nat × Array UInt32)=>[(8,.int .i64 x.1)]) (fun (x:Nat × Array UInt32)=>Sl 48 1 u32C u (x.2).toList::R) [(0,_),(2,_),(3,_)] (fun (x:Nat × Array UInt32)=>x.2.size=d.size∧x.1≤d.size∧siftDown lt32 hi fs x.1 x.2=siftDown lt32 hi fs root d) (fun (x:Nat × Array UInt32)=>hi - x.1) (root,d) (⟨rfl,hr,rfl⟩) ?_
 rintro ⟨rt,d1⟩ ⟨hs,hr1,he⟩
 simp only at hs hr1 he
 dsimp only
 refine WP.block<|WP.seq<|WP.reg<|WL.e e_move<|WL.e (e_mulN (a:=2))<|WL.e (e_addN (b:=1))<|WL.e e_assign<|WL.next<|WP.seq<|WP.seq<|WP.reg<|WL.e e_move<|WL.e e_move<|WL.e e_geq<|WL.next ?_
 refine WP.cond rfl (fun h1=>?_) (fun h1=>?_)
 ·replace h1:2 * rt+1≥hi:=by rw [decide_eq_true_eq] at h1;omega
  refine WP.exit<|PO.past nofun<|PO.blockY rfl<|PO.round nofun<|PO.blockX ?_
  rw [sd_stop h1] at he
  rw [← he] at hK
  exact PO.fin Tryz.results252 rv_nil hK
 ·replace h1:¬ (2 * rt+1≥hi):=by rw [decide_eq_false_iff_not] at h1;omega
  refine WP.skip<|PO.next<|WP.seq<|WP.seq<|WP.draws mixedOk 20<|RW.e 0 rfl e_move<|RW.e 1 rfl (e_addN (b:=1))<|RW.e 2 rfl e_move<|RW.e 3 rfl e_lss<|RW.e 4 rfl e_move ?_
  refine RW.bool 21 rfl (fun g=>?_) (fun g=>?_)
  ·replace g:2 * rt+1+1 < hi:=by rw [decide_eq_true_eq] at g;omega
   refine RW.e 5 rfl e_move<|RW.e 6 rfl e_move<|RW.e 7 rfl e_move<|RW.e 8 rfl (e_addN)<|RW.e 9 rfl (ea_ia sl67)<|RW.e 10 rfl (ea_load a48)<|RW.e 11 rfl e_move<|RW.e 12 rfl e_move<|RW.e 13 rfl e_move<|RW.e 14 rfl (e_addN)<|RW.e 15 rfl (e_addN (b:=1))<|RW.e 16 rfl (ea_ia sl67)<|RW.e 17 rfl (ea_load a48) ?_
   refine RW.any (is:=[18]) rfl ⟨?_,trivial⟩
   refine RWat.h rfl rfl rfl ?_
   refine (h_call (Less32_spec _ _) k231 ?_)
   refine ⟨trivial,?_⟩
   refine RW.e 19 rfl e_pick_t<|RW.done<|PO.next ?_
   refine WP.cond rfl (fun h3=>?_) (fun h3=>?_)
   ·have hst:=sd_r h1 g h3
    refine WP.reg<|WL.e e_move<|WL.e (e_addN (b:=1))<|WL.e e_assign<|WL.next<|WP.seq<|WP.seq<|WP.draws mixedOk 14<|RW.e 0 rfl e_move<|RW.e 1 rfl e_move<|RW.e 2 rfl e_move<|RW.e 3 rfl (e_addN)<|RW.e 4 rfl (ea_ia sl67)<|RW.e 5 rfl (ea_load a48)<|RW.e 6 rfl e_move<|RW.e 7 rfl e_move<|RW.e 8 rfl e_move<|RW.e 9 rfl (e_addN)<|RW.e 10 rfl (ea_ia sl67)<|RW.e 11 rfl (ea_load a48) ?_
    refine RW.any (is:=[12]) rfl ⟨?_,trivial⟩
    refine RWat.h rfl rfl rfl ?_
    refine (h_call (Less32_spec _ _) k231 ?_)
    refine ⟨trivial,?_⟩
    refine RW.e 13 rfl e_not<|RW.done<|PO.next ?_
    refine WP.cond rfl (fun h4=>?_) (fun h4=>?_)
    ·replace h4:=nt h4
     refine WP.ret<|PO.past nofun<|PO.blockR<|PO.round nofun<|PO.blockR ?_
     rw [show siftDown lt32 hi fs root d=d1 by rw [← he,hst,if_neg (by rw [h4];simp)]] at hK
     exact PO.fin Tryz.results252 rv_nil hK
    ·replace h4:=nf h4
     refine WP.skip<|PO.next<|WP.seq<|WP.draws mixedOk 24<|RW.e 0 rfl e_move<|RW.e 1 rfl e_move<|RW.e 2 rfl e_move<|RW.e 3 rfl (e_addN)<|RW.e 4 rfl e_move<|RW.e 5 rfl e_move<|RW.e 6 rfl e_move<|RW.e 7 rfl (e_addN)<|RW.e 8 rfl e_move<|RW.e 9 rfl e_move<|RW.e 10 rfl e_move<|RW.e 11 rfl (e_addN)<|RW.e 12 rfl (ea_ia sl67)<|RW.e 13 rfl (ea_load a48)<|RW.e 14 rfl e_move<|RW.e 15 rfl e_move<|RW.e 16 rfl e_move<|RW.e 17 rfl (e_addN)<|RW.e 18 rfl (ea_ia sl67)<|RW.e 19 rfl (ea_load a48) ?_
     refine RW.e 20 rfl (ea_ia sl67) ?_
     refine RW.any (is:=[21]) rfl ⟨?_,trivial⟩
     refine RWat.h' rfl rfl rfl ?_
     refine (ha_store s48 ?_)
     refine ⟨⟨⟨_,rfl,.inl ⟨rfl,(e_addN)⟩⟩,⟨_,rfl,.inl ⟨rfl,e_move⟩⟩,⟨_,rfl,.inl ⟨rfl,e_move⟩⟩,⟨_,rfl,.inl ⟨rfl,e_move⟩⟩,trivial⟩,?_⟩
     refine RW.e 22 rfl (ea_ia sl67) ?_
     refine RW.any (is:=[23]) rfl ⟨?_,trivial⟩
     refine RWat.h' rfl rfl rfl ?_
     refine (ha_store s48 ?_)
     refine ⟨trivial,?_⟩
     refine RW.done<|PO.next<|WP.reg<|WL.e e_move<|WL.e e_assign<|WL.nil<|PO.blockN ?_
     exact PO.againK ((2 * rt+1+1),swp d1 (fs+rt) (fs+(2 * rt+1+1))) ⟨by simp only [swp_size];omega,by simp only;omega,by simp only;rw [← he,hst,if_pos h4]⟩ (by simp only;omega)
   ·have hst:=sd_l h1 (fun _=>h3)
    refine WP.skip<|PO.next<|WP.seq<|WP.seq<|WP.draws mixedOk 14<|RW.e 0 rfl e_move<|RW.e 1 rfl e_move<|RW.e 2 rfl e_move<|RW.e 3 rfl (e_addN)<|RW.e 4 rfl (ea_ia sl67)<|RW.e 5 rfl (ea_load a48)<|RW.e 6 rfl e_move<|RW.e 7 rfl e_move<|RW.e 8 rfl e_move<|RW.e 9 rfl (e_addN)<|RW.e 10 rfl (ea_ia sl67)<|RW.e 11 rfl (ea_load a48) ?_
    refine RW.any (is:=[12]) rfl ⟨?_,trivial⟩
    refine RWat.h rfl rfl rfl ?_
    refine (h_call (Less32_spec _ _) k231 ?_)
    refine ⟨trivial,?_⟩
    refine RW.e 13 rfl e_not<|RW.done<|PO.next ?_
    refine WP.cond rfl (fun h4=>?_) (fun h4=>?_)
    ·replace h4:=nt h4
     refine WP.ret<|PO.past nofun<|PO.blockR<|PO.round nofun<|PO.blockR ?_
     rw [show siftDown lt32 hi fs root d=d1 by rw [← he,hst,if_neg (by rw [h4];simp)]] at hK
     exact PO.fin Tryz.results252 rv_nil hK
    ·replace h4:=nf h4
     refine WP.skip<|PO.next<|WP.seq<|WP.draws mixedOk 24<|RW.e 0 rfl e_move<|RW.e 1 rfl e_move<|RW.e 2 rfl e_move<|RW.e 3 rfl (e_addN)<|RW.e 4 rfl e_move<|RW.e 5 rfl e_move<|RW.e 6 rfl e_move<|RW.e 7 rfl (e_addN)<|RW.e 8 rfl e_move<|RW.e 9 rfl e_move<|RW.e 10 rfl e_move<|RW.e 11 rfl (e_addN)<|RW.e 12 rfl (ea_ia sl67)<|RW.e 13 rfl (ea_load a48)<|RW.e 14 rfl e_move<|RW.e 15 rfl e_move<|RW.e 16 rfl e_move<|RW.e 17 rfl (e_addN)<|RW.e 18 rfl (ea_ia sl67)<|RW.e 19 rfl (ea_load a48) ?_
     refine RW.e 20 rfl (ea_ia sl67) ?_
     refine RW.any (is:=[21]) rfl ⟨?_,trivial⟩
     refine RWat.h' rfl rfl rfl ?_
     refine (ha_store s48 ?_)
     refine ⟨⟨⟨_,rfl,.inl ⟨rfl,(e_addN)⟩⟩,⟨_,rfl,.inl ⟨rfl,e_move⟩⟩,⟨_,rfl,.inl ⟨rfl,e_move⟩⟩,⟨_,rfl,.inl ⟨rfl,e_move⟩⟩,trivial⟩,?_⟩
     refine RW.e 22 rfl (ea_ia sl67) ?_
     refine RW.any (is:=[23]) rfl ⟨?_,trivial⟩
     refine RWat.h' rfl rfl rfl ?_
     refine (ha_store s48 ?_)
     refine ⟨trivial,?_⟩
     refine RW.done<|PO.next<|WP.reg<|WL.e e_move<|WL.e e_assign<|WL.nil<|PO.blockN ?_
     exact PO.againK ((2 * rt+1),swp d1 (fs+rt) (fs+(2 * rt+1))) ⟨by simp only [swp_size];omega,by simp only;omega,by simp only;rw [← he,hst,if_pos h4]⟩ (by simp only;omega)
  ·replace g:¬ (2 * rt+1+1 < hi):=by rw [decide_eq_false_iff_not] at g;omega
   refine RW.skip 5 rfl<|RW.skip 6 rfl<|RW.skip 7 rfl<|RW.skip 8 rfl<|RW.skip 9 rfl<|RW.skip 10 rfl<|RW.skip 11 rfl<|RW.skip 12 rfl<|RW.skip 13 rfl<|RW.skip 14 rfl<|RW.skip 15 rfl<|RW.skip 16 rfl<|RW.skip 17 rfl<|RW.skip 18 rfl<|RW.e 19 rfl e_pick_f<|RW.done<|PO.next<|WP.cond_f rfl<|WP.skip<|PO.next<|WP.seq<|WP.seq<|WP.draws mixedOk 14<|RW.e 0 rfl e_move ?_
   refine RW.e 1 rfl e_move<|RW.e 2 rfl e_move<|RW.e 3 rfl (e_addN)<|RW.e 4 rfl (ea_ia sl67)<|RW.e 5 rfl (ea_load a48)<|RW.e 6 rfl e_move<|RW.e 7 rfl e_move<|RW.e 8 rfl e_move<|RW.e 9 rfl (e_addN)<|RW.e 10 rfl (ea_ia sl67)<|RW.e 11 rfl (ea_load a48) ?_
   refine RW.any (is:=[12]) rfl ⟨?_,trivial⟩
   refine RWat.h rfl rfl rfl ?_
   refine (h_call (Less32_spec _ _) k231 ?_)
   refine ⟨trivial,?_⟩
   refine RW.e 13 rfl e_not<|RW.done<|PO.next ?_
   refine WP.cond rfl (fun h4=>?_) (fun h4=>?_)
   ·have hst:=sd_l (d:=d1) (first:=fs) h1 (fun h=>absurd h g)
    replace h4:=nt h4
    refine WP.ret<|PO.past nofun<|PO.blockR<|PO.round nofun<|PO.blockR ?_
    rw [show siftDown lt32 hi fs root d=d1 by rw [← he,hst,if_neg (by rw [h4];simp)]] at hK
    exact PO.fin Tryz.results252 rv_nil hK
   ·have hst:=sd_l (d:=d1) (first:=fs) h1 (fun h=>absurd h g)
    replace h4:=nf h4
    refine WP.skip<|PO.next<|WP.seq<|WP.draws mixedOk 24<|RW.e 0 rfl e_move<|RW.e 1 rfl e_move<|RW.e 2 rfl e_move<|RW.e 3 rfl (e_addN)<|RW.e 4 rfl e_move<|RW.e 5 rfl e_move<|RW.e 6 rfl e_move<|RW.e 7 rfl (e_addN)<|RW.e 8 rfl e_move<|RW.e 9 rfl e_move<|RW.e 10 rfl e_move<|RW.e 11 rfl (e_addN)<|RW.e 12 rfl (ea_ia sl67)<|RW.e 13 rfl (ea_load a48)<|RW.e 14 rfl e_move<|RW.e 15 rfl e_move<|RW.e 16 rfl e_move<|RW.e 17 rfl (e_addN)<|RW.e 18 rfl (ea_ia sl67)<|RW.e 19 rfl (ea_load a48) ?_
    refine RW.e 20 rfl (ea_ia sl67) ?_
    refine RW.any (is:=[21]) rfl ⟨?_,trivial⟩
    refine RWat.h' rfl rfl rfl ?_
    refine (ha_store s48 ?_)
    refine ⟨⟨⟨_,rfl,.inl ⟨rfl,(e_addN)⟩⟩,⟨_,rfl,.inl ⟨rfl,e_move⟩⟩,⟨_,rfl,.inl ⟨rfl,e_move⟩⟩,⟨_,rfl,.inl ⟨rfl,e_move⟩⟩,trivial⟩,?_⟩
    refine RW.e 22 rfl (ea_ia sl67) ?_
    refine RW.any (is:=[23]) rfl ⟨?_,trivial⟩
    refine RWat.h' rfl rfl rfl ?_
    refine (ha_store s48 ?_)
    refine ⟨trivial,?_⟩
    refine RW.done<|PO.next<|WP.reg<|WL.e e_move<|WL.e e_assign<|WL.nil<|PO.blockN ?_
    exact PO.againK ((2 * rt+1),swp d1 (fs+rt) (fs+(2 * rt+1))) ⟨by simp only [swp_size];omega,by simp only;omega,by simp only;rw [← he,hst,if_pos h4]⟩ (by simp only;omega)
set_option maxHeartbeats 1000000 in
theorem Heap32_spec {g:World} {u:Value} (d:Array UInt32) (a b:Nat) (hab:a < b) (hb:b≤d.size) (hn:d.size≤68719476736):Spec Tryz.prog g 226 [u,.int .i64 a,.int .i64 b] [Sl 48 1 u32C u (d).toList] fun K R=>K (.tuple #[]) (Sl 48 1 u32C u (heapSort lt32 d a b).toList::R):=by
 refine Spec.intro Tryz.func226 rfl Tryz.ntmps226 rfl fun R K hK=>?_
 refine WP.seq<|WP.reg<|WL.e e_move<|WL.e e_assign<|WL.next<|WP.seq<|WP.reg<|WL.e e_assign<|WL.next<|WP.seq<|WP.reg<|WL.e e_move<|WL.e e_move<|WL.e (e_subN)<|WL.e e_assign<|WL.next<|WP.seq<|WP.seq<|WP.reg<|WL.e e_move<|WL.e (e_subN (b:=1))<|WL.e (e_quo (c:=(((b - a - 1) / 2+1:Nat):Int) - 1) rfl rfl (by decide) (by rw [Int.tdiv_eq_ediv_of_nonneg (by omega),w_i64 (by omega) (by omega)];omega))<|WL.e e_assign<|WL.next ?_
 refine WP.block<|WP.loopK (fun (x:Nat × Array UInt32)=>[(9,.int .i64 ((x.1:Int) - 1))]) (fun (x:Nat × Array UInt32)=>Sl 48 1 u32C u (x.2).toList::R) [(0,_),(6,_),(7,_),(8,_)] (fun (x:Nat × Array UInt32)=>x.2.size=d.size∧x.1≤(b - a - 1) / 2+1∧heapBuild lt32 (b - a) a x.1 x.2=heapBuild lt32 (b - a) a ((b - a - 1) / 2+1) d) (fun (x:Nat × Array UInt32)=>x.1) ((b - a - 1) / 2+1,d) (⟨rfl,Nat.le_refl _,rfl⟩) ?_
 rintro ⟨k,d1⟩ ⟨hs,hk,he⟩
 simp only at hs hk he
 dsimp only
 refine WP.seq<|WP.seq<|WP.reg<|WL.e e_move<|WL.e e_geq<|WL.next ?_
 refine WP.cond rfl (fun h1=>?_) (fun h1=>?_)
 ·replace h1:0 < k:=by rw [decide_eq_true_eq] at h1;omega
  rw [show ((k:Int) - 1)=((k - 1:Nat):Int) by omega]
  refine WP.skip<|PO.next<|WP.seq<|WP.block<|WP.reg<|WL.e e_move<|WL.e e_move<|WL.e e_move<|WL.e e_move ?_
  refine WL.h (h_call (Sift32_spec d1 (k - 1) (b - a) a (by omega) (by omega) (by omega)) k252 ?_)
  refine WL.nil<|PO.blockN<|PO.next<|WP.reg<|WL.e e_move<|WL.e (e_sub (c:=((k - 1:Nat):Int) - 1) rfl rfl (w_i64 (by omega) (by omega)))<|WL.e e_assign<|WL.nil ?_
  exact PO.againK (k - 1,siftDown lt32 (b - a) a (k - 1) d1) ⟨by simp only [sdn_size];omega,by simp only;omega,by simp only;rw [← he];obtain ⟨m,rfl⟩:∃ m,k=m+1:=⟨k - 1,by omega⟩;rw [Nat.add_sub_cancel,heapBuild]⟩ (by simp only;omega)
 ·replace h1:k=0:=by rw [decide_eq_false_iff_not] at h1;omega
  subst h1
  obtain ⟨d0,hd0⟩:∃ d0,d0=heapBuild lt32 (b - a) a ((b - a - 1) / 2+1) d:=⟨_,rfl⟩
  rw [← hd0,heapBuild] at he
  subst he
  refine WP.exit<|PO.past nofun<|PO.round nofun<|PO.blockX<|PO.next<|WP.seq<|WP.reg<|WL.e e_move<|WL.e (e_sub (c:=((b - a:Nat):Int) - 1) rfl rfl (w_i64 (by omega) (by omega)))<|WL.e e_assign<|WL.next<|WP.block<|WP.loopK (fun (x:Nat × Array UInt32)=>[(10,.int .i64 ((x.1:Int) - 1))]) (fun (x:Nat × Array UInt32)=>Sl 48 1 u32C u (x.2).toList::R) [(0,_),(6,_),(7,_)] (fun (x:Nat × Array UInt32)=>x.2.size=d.size∧x.1≤b - a∧heapPop lt32 a x.1 x.2=heapPop lt32 a (b - a) d1) (fun (x:Nat × Array UInt32)=>x.1) (b - a,d1) (⟨hs,Nat.le_refl _,rfl⟩) ?_
  rintro ⟨k,d2⟩ ⟨hs2,hk2,he2⟩
  simp only at hs2 hk2 he2
  dsimp only
  refine WP.seq<|WP.seq<|WP.reg<|WL.e e_move<|WL.e e_geq<|WL.next ?_
  refine WP.cond rfl (fun h2=>?_) (fun h2=>?_)
  ·replace h2:0 < k:=by rw [decide_eq_true_eq] at h2;omega
   rw [show ((k:Int) - 1)=((k - 1:Nat):Int) by omega]
   refine WP.skip<|PO.next<|WP.seq<|WP.block<|WP.seq<|WP.draws mixedOk 20<|RW.e 0 rfl e_move<|RW.e 1 rfl e_move<|RW.e 2 rfl e_move<|RW.e 3 rfl e_move<|RW.e 4 rfl e_move<|RW.e 5 rfl (e_addN)<|RW.e 6 rfl e_move<|RW.e 7 rfl e_move<|RW.e 8 rfl e_move<|RW.e 9 rfl (e_addN)<|RW.e 10 rfl (ea_ia sl67)<|RW.e 11 rfl (ea_load a48)<|RW.e 12 rfl e_move<|RW.e 13 rfl e_move<|RW.e 14 rfl (ea_ia sl67)<|RW.e 15 rfl (ea_load a48)<|RW.e 16 rfl (ea_ia sl67) ?_
   refine RW.any (is:=[17]) rfl ⟨?_,trivial⟩
   refine RWat.h' rfl rfl rfl ?_
   refine (ha_store s48 ?_)
   refine ⟨⟨⟨_,rfl,.inl ⟨rfl,(e_addN)⟩⟩,⟨_,rfl,.inl ⟨rfl,e_move⟩⟩,⟨_,rfl,.inl ⟨rfl,e_move⟩⟩,⟨_,rfl,.inl ⟨rfl,e_move⟩⟩,trivial⟩,?_⟩
   refine RW.e 18 rfl (ea_ia sl67) ?_
   refine RW.any (is:=[19]) rfl ⟨?_,trivial⟩
   refine RWat.h' rfl rfl rfl ?_
   refine (ha_store s48 ?_)
   refine ⟨trivial,?_⟩
   refine RW.done<|PO.next<|WP.reg<|WL.e e_move<|WL.e e_move<|WL.e e_move<|WL.e e_move ?_
   refine WL.h (h_call (Sift32_spec (swp d2 a (a+(k - 1))) 0 (k - 1) a (by rw [swp_size];omega) (Nat.zero_le _) (by rw [swp_size];omega)) k252 ?_)
   refine WL.nil<|PO.blockN<|PO.next<|WP.reg<|WL.e e_move<|WL.e (e_sub (c:=((k - 1:Nat):Int) - 1) rfl rfl (w_i64 (by omega) (by omega)))<|WL.e e_assign<|WL.nil ?_
   exact PO.againK (k - 1,siftDown lt32 (k - 1) a 0 (swp d2 a (a+(k - 1)))) ⟨by simp only [sdn_size,swp_size];omega,by simp only;omega,by simp only;rw [← he2];obtain ⟨m,rfl⟩:∃ m,k=m+1:=⟨k - 1,by omega⟩;rw [Nat.add_sub_cancel,heapPop]⟩ (by simp only;omega)
  ·replace h2:k=0:=by rw [decide_eq_false_iff_not] at h2;omega
   subst h2
   rw [heapPop] at he2
   refine WP.exit<|PO.past nofun<|PO.round nofun<|PO.blockX ?_
   rw [show heapSort lt32 d a b=d2 by rw [he2,hd0];rfl] at hK
   exact PO.fin Tryz.results226 rv_nil hK
theorem Rev32_spec {g:World} {u:Value} (d:Array UInt32) (a b:Nat) (hab:a < b) (hb:b≤d.size) (hn:d.size≤68719476736):Spec Tryz.prog g 229 [u,.int .i64 a,.int .i64 b] [Sl 48 1 u32C u (d).toList] fun K R=>K (.tuple #[]) (Sl 48 1 u32C u (reverseRange d a b).toList::R):=by
 refine Spec.intro Tryz.func229 rfl Tryz.ntmps229 rfl fun R K hK=>?_
 refine WP.seq<|WP.reg<|WL.e e_move<|WL.e e_assign<|WL.next<|WP.seq<|WP.reg<|WL.e e_move<|WL.e (e_subN (b:=1))<|WL.e e_assign<|WL.next<|WP.block<|WP.loopK (fun (x:Nat × Nat × Array UInt32)=>[(6,.int .i64 x.1),(7,.int .i64 x.2.1)]) (fun (x:Nat × Nat × Array UInt32)=>Sl 48 1 u32C u (x.2.2).toList::R) [(0,_)] (fun (x:Nat × Nat × Array UInt32)=>x.2.2.size=d.size∧x.1≤b∧x.2.1 < b∧reverseLoop x.1 x.2.1 x.2.2=reverseLoop a (b - 1) d) (fun (x:Nat × Nat × Array UInt32)=>x.2.1+1 - x.1) (a,b - 1,d) (⟨rfl,by simp only;omega,by simp only;omega,rfl⟩) ?_
 rintro ⟨i,j,d1⟩ ⟨hs,hi,hj,he⟩
 simp only at hs hi hj he
 dsimp only
 refine WP.seq<|WP.seq<|WP.reg<|WL.e e_move<|WL.e e_move<|WL.e e_lss<|WL.next ?_
 refine WP.cond rfl (fun h1=>?_) (fun h1=>?_)
 ·replace h1:i < j:=by rw [decide_eq_true_eq] at h1;omega
  refine WP.skip<|PO.next<|WP.block<|WP.seq<|WP.draws mixedOk 16<|RW.e 0 rfl e_move<|RW.e 1 rfl e_move<|RW.e 2 rfl e_move<|RW.e 3 rfl e_move<|RW.e 4 rfl e_move<|RW.e 5 rfl e_move<|RW.e 6 rfl (ea_ia sl67)<|RW.e 7 rfl (ea_load a48)<|RW.e 8 rfl e_move<|RW.e 9 rfl e_move<|RW.e 10 rfl (ea_ia sl67)<|RW.e 11 rfl (ea_load a48)<|RW.e 12 rfl (ea_ia sl67) ?_
  refine RW.any (is:=[13]) rfl ⟨?_,trivial⟩
  refine RWat.h' rfl rfl rfl ?_
  refine (ha_store s48 ?_)
  refine ⟨⟨⟨_,rfl,.inl ⟨rfl,e_move⟩⟩,⟨_,rfl,.inl ⟨rfl,e_move⟩⟩,trivial⟩,?_⟩
  refine RW.e 14 rfl (ea_ia sl67) ?_
  refine RW.any (is:=[15]) rfl ⟨?_,trivial⟩
  refine RWat.h' rfl rfl rfl ?_
  refine (ha_store s48 ?_)
  refine ⟨trivial,?_⟩
  refine RW.done<|PO.next<|WP.seq<|WP.reg<|WL.e e_move<|WL.e (e_addN (b:=1))<|WL.e e_assign<|WL.next<|WP.reg<|WL.e e_move<|WL.e (e_subN (b:=1))<|WL.e e_assign<|WL.nil<|PO.blockN ?_
  exact PO.againK (i+1,j - 1,swp d1 i j) ⟨by simp only [swp_size];omega,by simp only;omega,by simp only;omega,by simp only;rw [← he,rev_step h1]⟩ (by simp only;omega)
 ·replace h1:¬ (i < j):=by rw [decide_eq_false_iff_not] at h1;omega
  refine WP.exit<|PO.past nofun<|PO.round nofun<|PO.blockX ?_
  rw [rev_stop h1] at he
  rw [show reverseRange d a b=d1 from he.symm] at hK
  exact PO.fin Tryz.results229 rv_nil hK
theorem Ord32_spec {g:World} {u:Value} {q:Nat} (d:Array UInt32) (a b sw:Nat) (ha:a < d.size) (hb:b < d.size) (hs:sw≤1000000):Spec Tryz.prog g 265 [u,.int .i64 a,.int .i64 b,.pointer (some ⟨q,0,none⟩)] [Sl 48 1 u32C u (d).toList,cl q 3 [.int .i64 ((sw:Nat):Int)]] fun K R=>K (.tuple #[.int .i64 ((order2 lt32 d a b sw).1:Nat),.int .i64 ((order2 lt32 d a b sw).2.1:Nat)]) (Sl 48 1 u32C u (d).toList::cl q 3 [.int .i64 (((order2 lt32 d a b sw).2.2:Nat):Int)]::R):=by
 refine Spec.intro Tryz.func265 rfl Tryz.ntmps265 rfl fun R K hK=>?_
 refine WP.seq<|WP.reg<|WL.e e_assign<|WL.e e_assign<|WL.next<|WP.seq<|WP.seq<|WP.draws mixedOk 9<|RW.e 0 rfl e_move<|RW.e 1 rfl e_move<|RW.e 2 rfl (ea_ia sl67)<|RW.e 3 rfl (ea_load a48)<|RW.e 4 rfl e_move<|RW.e 5 rfl e_move<|RW.e 6 rfl (ea_ia sl67)<|RW.e 7 rfl (ea_load a48) ?_
 refine RW.any (is:=[8]) rfl ⟨?_,trivial⟩
 refine RWat.h rfl rfl rfl ?_
 refine (h_call (Less32_spec _ _) k231 ?_)
 refine ⟨trivial,?_⟩
 refine RW.done<|PO.next ?_
 refine WP.cond rfl (fun h1=>?_) (fun h1=>?_)
 ·rw [ord_t h1] at hK
  refine WP.seq<|WP.reg<|WL.e e_move<|WL.e e_nil<|WL.e (e_load a3)<|WL.e (e_addN (b:=1))<|WL.e e_nil ?_
  refine WL.h' (h_store s3 ?_)
  refine WL.next<|WP.seq<|WP.reg<|WL.e e_move<|WL.e e_move<|WL.e e_assign<|WL.e e_assign<|WL.next<|WP.ret<|PO.past nofun ?_
  exact PO.fin Tryz.results265 (rv_tmp (rv_tmp rv_nil)) hK
 ·rw [ord_f h1] at hK
  refine WP.skip<|PO.next<|WP.seq<|WP.reg<|WL.e e_move<|WL.e e_move<|WL.e e_assign<|WL.e e_assign<|WL.next<|WP.ret ?_
  exact PO.fin Tryz.results265 (rv_tmp (rv_tmp rv_nil)) hK
theorem Med32_spec {g:World} {u:Value} {q:Nat} (d:Array UInt32) (a b c sw:Nat) (ha:a < d.size) (hb:b < d.size) (hc:c < d.size) (hs:sw≤1000):Spec Tryz.prog g 254 [u,.int .i64 a,.int .i64 b,.int .i64 c,.pointer (some ⟨q,0,none⟩)] [Sl 48 1 u32C u (d).toList,cl q 3 [.int .i64 ((sw:Nat):Int)]] fun K R=>K (.int .i64 ((median lt32 d a b c sw).1:Nat)) (Sl 48 1 u32C u (d).toList::cl q 3 [.int .i64 (((median lt32 d a b c sw).2:Nat):Int)]::R):=by
 refine Spec.intro Tryz.func254 rfl Tryz.ntmps254 rfl fun R K hK=>?_
 refine WP.seq<|WP.reg<|WL.e e_assign<|WL.next<|WP.seq<|WP.reg<|WL.e e_move<|WL.e e_move<|WL.e e_move<|WL.e e_move ?_
 refine WL.h (h_call (Ord32_spec d a b sw ha hb (by omega)) k265 ?_)
 obtain ⟨p1,p2,p3⟩:=ord_lt (d:=d) (sw:=sw) ha hb
 obtain ⟨r1,hr1⟩:∃ r,r=order2 lt32 d a b sw:=⟨_,rfl⟩
 rw [← hr1] at p1 p2 p3 ⊢
 refine WL.e e_move<|WL.e e_extract<|WL.e e_extract<|WL.e e_assign<|WL.e e_assign<|WL.next<|WP.seq<|WP.reg<|WL.e e_move<|WL.e e_move<|WL.e e_move<|WL.e e_move ?_
 refine WL.h (h_call (Ord32_spec d r1.2.1 c r1.2.2 p2 hc (by omega)) k265 ?_)
 obtain ⟨p4,p5,p6⟩:=ord_lt (d:=d) (sw:=r1.2.2) p2 hc
 obtain ⟨r2,hr2⟩:∃ r,r=order2 lt32 d r1.2.1 c r1.2.2:=⟨_,rfl⟩
 rw [← hr2] at p4 p5 p6 ⊢
 refine WL.e e_move<|WL.e e_extract<|WL.e e_extract<|WL.e e_assign<|WL.e e_assign<|WL.next<|WP.seq<|WP.reg<|WL.e e_move<|WL.e e_move<|WL.e e_move<|WL.e e_move ?_
 refine WL.h (h_call (Ord32_spec d r1.1 r2.1 r2.2.2 p1 p4 (by omega)) k265 ?_)
 rw [show median lt32 d a b c sw=((order2 lt32 d r1.1 r2.1 r2.2.2).2.1,(order2 lt32 d r1.1 r2.1 r2.2.2).2.2) by rw [hr2,hr1];rfl] at hK
 refine WL.e e_move<|WL.e e_extract<|WL.e e_extract<|WL.e e_assign<|WL.e e_assign<|WL.next<|WP.seq<|WP.reg<|WL.e e_move<|WL.e e_assign<|WL.next<|WP.ret ?_
 exact PO.fin Tryz.results254 (rv_tmp rv_nil) hK
theorem MedA32_spec {g:World} {u:Value} {q:Nat} (d:Array UInt32) (a sw:Nat) (h1:1≤a) (ha:a+1 < d.size) (hn:d.size≤68719476736) (hs:sw≤1000):Spec Tryz.prog g 253 [u,.int .i64 a,.pointer (some ⟨q,0,none⟩)] [Sl 48 1 u32C u (d).toList,cl q 3 [.int .i64 ((sw:Nat):Int)]] fun K R=>K (.int .i64 ((medianAdjacent lt32 d a sw).1:Nat)) (Sl 48 1 u32C u (d).toList::cl q 3 [.int .i64 (((medianAdjacent lt32 d a sw).2:Nat):Int)]::R):=by
 refine Spec.intro Tryz.func253 rfl Tryz.ntmps253 rfl fun R K hK=>?_
 refine WP.seq<|WP.reg<|WL.e e_assign<|WL.next<|WP.seq<|WP.reg<|WL.e e_move<|WL.e e_move<|WL.e (e_subN (b:=1))<|WL.e e_move<|WL.e e_move<|WL.e (e_addN (b:=1))<|WL.e e_move ?_
 refine WL.h (h_call (Med32_spec d (a - 1) a (a+1) sw (by omega) (by omega) ha hs) k254 ?_)
 refine WL.e e_assign<|WL.next<|WP.ret ?_
 exact PO.fin Tryz.results253 (rv_tmp rv_nil) hK
set_option maxHeartbeats 1000000 in
theorem Piv32_spec {g:World} {u:Value} (d:Array UInt32) (a b:Nat) (hab:a < b) (hb:b≤d.size) (hn:d.size≤68719476736):Spec Tryz.prog g 228 [u,.int .i64 a,.int .i64 b] [Sl 48 1 u32C u (d).toList] fun K R=>K (.tuple #[.int .i64 ((choosePivot lt32 d a b).1:Nat),.int .i64 (hv (choosePivot lt32 d a b).2:Nat)]) (Sl 48 1 u32C u (d).toList::R):=by
 refine Spec.intro Tryz.func228 rfl Tryz.ntmps228 rfl fun R K hK=>?_
 refine WP.seq<|WP.reg<|WL.e e_assign<|WL.e e_assign<|WL.next<|WP.seq<|WP.reg<|WL.e e_move<|WL.e e_move<|WL.e (e_subN)<|WL.e e_assign<|WL.next<|WP.seq<|WP.reg ?_
 refine WL.h (h_alloc z3 fun b1=>?_)
 refine WL.next<|WP.seq<|WP.reg<|WL.e e_move<|WL.e e_move<|WL.e (e_quoN (b:=4))<|WL.e (e_mulN (b:=1))<|WL.e (e_addN)<|WL.e e_assign<|WL.next<|WP.seq<|WP.reg<|WL.e e_move<|WL.e e_move<|WL.e (e_quoN (b:=4))<|WL.e (e_mulN (b:=2))<|WL.e (e_addN)<|WL.e e_assign<|WL.next<|WP.seq<|WP.reg<|WL.e e_move<|WL.e e_move<|WL.e (e_quoN (b:=4)) ?_
 refine WL.e (e_mulN (b:=3))<|WL.e (e_addN)<|WL.e e_assign<|WL.next<|WP.seq<|WP.seq<|WP.reg<|WL.e e_move<|WL.e e_geq<|WL.next ?_
 refine WP.cond rfl (fun h8=>?_) (fun h8=>?_)
 ·replace h8:b - a≥8:=by rw [decide_eq_true_eq] at h8;omega
  refine WP.seq<|WP.seq<|WP.reg<|WL.e e_move<|WL.e e_geq<|WL.next ?_
  refine WP.cond rfl (fun h50=>?_) (fun h50=>?_)
  ·replace h50:b - a≥50:=by rw [decide_eq_true_eq] at h50;omega
   refine WP.seq<|WP.reg<|WL.e e_move<|WL.e e_move ?_
   refine WL.h (h_call (MedA32_spec d (a+(b - a) / 4 * 1) 0 (by omega) (by omega) (by omega) (by omega)) k253 ?_)
   obtain ⟨r1,e1⟩:∃ r,medianAdjacent lt32 d (a+(b - a) / 4 * 1) 0=r:=⟨_,rfl⟩
   obtain ⟨p1,p2⟩:r1.1 < d.size∧r1.2≤3:=by rw [← e1];exact med_lt (by omega) (by omega) (by omega)
   rw [e1]
   refine WL.e e_assign<|WL.next<|WP.seq<|WP.reg<|WL.e e_move<|WL.e e_move ?_
   refine WL.h (h_call (MedA32_spec d (a+(b - a) / 4 * 2) r1.2 (by omega) (by omega) (by omega) (by omega)) k253 ?_)
   obtain ⟨r2,e2⟩:∃ r,medianAdjacent lt32 d (a+(b - a) / 4 * 2) r1.2=r:=⟨_,rfl⟩
   obtain ⟨p3,p4⟩:r2.1 < d.size∧r2.2≤r1.2+3:=by rw [← e2];exact med_lt (by omega) (by omega) (by omega)
   rw [e2]
   refine WL.e e_assign<|WL.next<|WP.reg<|WL.e e_move<|WL.e e_move ?_
   refine WL.h (h_call (MedA32_spec d (a+(b - a) / 4 * 3) r2.2 (by omega) (by omega) (by omega) (by omega)) k253 ?_)
   obtain ⟨r3,e3⟩:∃ r,medianAdjacent lt32 d (a+(b - a) / 4 * 3) r2.2=r:=⟨_,rfl⟩
   obtain ⟨p5,p6⟩:r3.1 < d.size∧r3.2≤r2.2+3:=by rw [← e3];exact med_lt (by omega) (by omega) (by omega)
   rw [e3]
   refine WL.e e_assign<|WL.next<|WP.reg<|WL.e e_move<|WL.e e_move<|WL.e e_move<|WL.e e_move ?_
   refine WL.h (h_call (Med32_spec d r1.1 r2.1 r3.1 r3.2 p1 p3 p5 (by omega)) k254 ?_)
   obtain ⟨r4,e4⟩:∃ r,median lt32 d r1.1 r2.1 r3.1 r3.2=r:=⟨_,rfl⟩
   rw [e4]
   rw [cp3 h8 h50 e1 e2 e3 e4] at hK
   clear e1
   refine WL.e e_assign<|WL.next<|WP.seq<|WP.reg<|WL.e (e_load a3)<|WL.next<|WP.block<|WP.seq<|WP.reg<|WL.e e_eql<|WL.e e_assign<|WL.next ?_
   refine WP.cond rfl (fun e0=>?_) (fun e0=>?_)
   ·replace e0:r4.2=0:=by simpa using e0
    rw [cpH,if_pos e0] at hK
    refine WP.seq<|WP.reg<|WL.e e_move<|WL.e e_assign<|WL.e e_assign<|WL.next<|WP.ret<|PO.blockR ?_
    exact PO.fin Tryz.results228 (rv_tmp (rv_tmp rv_nil)) hK
   ·replace e0:¬ r4.2=0:=by simpa using e0
    refine WP.seq<|WP.reg<|WL.e e_eql<|WL.e e_assign<|WL.next ?_
    refine WP.cond rfl (fun e1=>?_) (fun e1=>?_)
    ·replace e1:r4.2=12:=by have:=eq_of_beq e1;omega
     rw [cpH,if_neg e0,if_pos e1] at hK
     refine WP.seq<|WP.reg<|WL.e e_move<|WL.e e_assign<|WL.e e_assign<|WL.next<|WP.ret<|PO.blockR ?_
     exact PO.fin Tryz.results228 (rv_tmp (rv_tmp rv_nil)) hK
    ·replace e1:¬ r4.2=12:=fun h=>by rw [h] at e1;exact absurd e1 (by decide)
     rw [cpH,if_neg e0,if_neg e1] at hK
     refine WP.seq<|WP.reg<|WL.e e_move<|WL.e e_assign<|WL.e e_assign<|WL.next<|WP.ret<|PO.blockR ?_
     exact PO.fin Tryz.results228 (rv_tmp (rv_tmp rv_nil)) hK
  ·replace h50:¬ (b - a≥50):=by rw [decide_eq_false_iff_not] at h50;omega
   refine WP.skip<|PO.next<|WP.reg<|WL.e e_move<|WL.e e_move<|WL.e e_move<|WL.e e_move ?_
   refine WL.h (h_call (Med32_spec d (a+(b - a) / 4 * 1) (a+(b - a) / 4 * 2) (a+(b - a) / 4 * 3) 0 (by omega) (by omega) (by omega) (by omega)) k254 ?_)
   rw [cp2 h8 h50] at hK
   obtain ⟨r4,e4⟩:∃ r,median lt32 d (a+(b - a) / 4 * 1) (a+(b - a) / 4 * 2) (a+(b - a) / 4 * 3) 0=r:=⟨_,rfl⟩
   rw [e4] at hK ⊢
   refine WL.e e_assign<|WL.next<|WP.seq<|WP.reg<|WL.e (e_load a3)<|WL.next<|WP.block<|WP.seq<|WP.reg<|WL.e e_eql<|WL.e e_assign<|WL.next ?_
   refine WP.cond rfl (fun e0=>?_) (fun e0=>?_)
   ·replace e0:r4.2=0:=by simpa using e0
    rw [cpH,if_pos e0] at hK
    refine WP.seq<|WP.reg<|WL.e e_move<|WL.e e_assign<|WL.e e_assign<|WL.next<|WP.ret<|PO.blockR ?_
    exact PO.fin Tryz.results228 (rv_tmp (rv_tmp rv_nil)) hK
   ·replace e0:¬ r4.2=0:=by simpa using e0
    refine WP.seq<|WP.reg<|WL.e e_eql<|WL.e e_assign<|WL.next ?_
    refine WP.cond rfl (fun e1=>?_) (fun e1=>?_)
    ·replace e1:r4.2=12:=by have:=eq_of_beq e1;omega
     rw [cpH,if_neg e0,if_pos e1] at hK
     refine WP.seq<|WP.reg<|WL.e e_move<|WL.e e_assign<|WL.e e_assign<|WL.next<|WP.ret<|PO.blockR ?_
     exact PO.fin Tryz.results228 (rv_tmp (rv_tmp rv_nil)) hK
    ·replace e1:¬ r4.2=12:=fun h=>by rw [h] at e1;exact absurd e1 (by decide)
     rw [cpH,if_neg e0,if_neg e1] at hK
     refine WP.seq<|WP.reg<|WL.e e_move<|WL.e e_assign<|WL.e e_assign<|WL.next<|WP.ret<|PO.blockR ?_
     exact PO.fin Tryz.results228 (rv_tmp (rv_tmp rv_nil)) hK
 ·replace h8:¬ (b - a≥8):=by rw [decide_eq_false_iff_not] at h8;omega
  refine WP.skip<|PO.next<|WP.seq<|WP.reg<|WL.e (e_load a3)<|WL.next<|WP.block<|WP.seq<|WP.reg<|WL.e e_eql<|WL.e e_assign<|WL.next ?_
  refine WP.cond rfl (fun e0=>?_) (fun e0=>?_)
  ·rw [cp1 h8] at hK
   refine WP.seq<|WP.reg<|WL.e e_move<|WL.e e_assign<|WL.e e_assign<|WL.next<|WP.ret<|PO.blockR ?_
   exact PO.fin Tryz.results228 (rv_tmp (rv_tmp rv_nil)) hK
  ·exact absurd e0 (by decide)
end Go.SL

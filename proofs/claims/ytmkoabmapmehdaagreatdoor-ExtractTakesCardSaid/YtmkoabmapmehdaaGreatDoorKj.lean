/- What is proved here: parts of the proofs of this seat's statements (a verified evaluator for calls over pure values, its laws, and contracts of functions). No condition. -/
import Derived.Test.YtmkoabmapmehdaaGreatDoorKi
import Derived.MapKept
set_option linter.all false
open List renaming getElem?_map→z00,eq_nil_of_length_eq_zero→z02,length_cons→z05
open Bool renaming and_eq_true→z01
open Option renaming map_eq_some_iff→z03
open Array renaming ext'→z04
open Nat renaming add_assoc→z06
namespace Go.Ck
open Go.RowKit Go.MapKept
section
variable {P : Program} {R : Option Nat} {Φ : Exit → Cx → St → Prop} {k : List It} {C : Cx} {s : St}
theorem oy{all:Array Oper}{o:Oper}{r:List Oper}{d:Nat}{v:SV}(hg:o.guard=none)(hd:o.dst=some d)(hp:∀c,o.op≠ .defer c)(hgood:mq s v)
  (h:∀(B:Bs) (E:Env) (a:Act) (w:World),Gj P (fun b=>E.om b∨B.F b) w→Rel P B.O B.w B.F s E a.tmps w→∃x,(execOp a.eval o).run P w= .ok (.value x) w∧RS P (fun b=>E.om b∨B.F b) E w v x)
  (hk:AW P R Φ .normal (.ops all r::k) C (put d v s)):AW P R Φ .normal (.ops all (o::r)::k) C s:=fun B a w ha=>by
 simp only[mz];refine cb (by simp[Region.wanted,hg]) hp ?_
 obtain⟨hdf,E,hE⟩:=ha;obtain⟨x,h1,h2⟩:=h B E a w (v8 hdf.2.2 hE) hE;rw[h1,Oper.uponIn_value,hd];exact hk B _ w ⟨by rw[cz];exact hdf,E,hE.putGood d hgood h2⟩
theorem Vs{B:Bs}{E:Env}{a:Act}{w:World}(hE:Rel P B.O B.w B.F s E a.tmps w){x:Operand}{kk:IntKind}{n:Int}(h:ev s x=some (.pv (.int kk n))):a.eval x= .int kk n:=by
 have:=cq hE h;generalize a.eval x=z at this;cases this with|pv _ _ h=>cases h;rfl
theorem aA0{B:Bs}{E:Env}{a:Act}{w:World}(hE:Rel P B.O B.w B.F s E a.tmps w){x:Operand}{l:List UInt8}(h:ev s x=some (.pv (.str l))):a.eval x= .string ⟨l.toArray⟩:=by
 have:=cq hE h;generalize a.eval x=z at this;cases this with|pv _ _ h=>cases h;rfl
theorem U4{all:Array Oper}{o:Oper}{r:List Oper}{d t:Nat}{x i:Operand}{l:List UInt8}{n:Nat}{kk:IntKind}(v:UInt8)(hx:ev s x=some (.pv (.str l)))(hi:ev s i=some (.pv (.int kk (n:Int))))(hv:l[n]?=some v)
  (hk:AW P R Φ .normal (.ops all r::k) C (put d (.pv (.int .u8 v.toNat)) s)) (hg:o.guard=none:=by rfl) (hd:o.dst=some d:=by rfl) (ho:o.op= .index t x i:=by rfl) (hT:P.underlying t=some .string:=by kernel_rfl):AW P R Φ .normal (.ops all (o::r)::k) C s:=by
 refine oy hg hd (fun c hc=>by rw[ho]at hc;cases hc) (.pv _ _) (fun B E a w _ hE=>⟨.int .u8 v.toNat, ?_,.pv _ _ (.int _ _)⟩) hk
 have e1:=aA0 hE hx;have e2:=Vs hE hi;have h0:(⟨l.toArray⟩:ByteArray)[n]?=some v:=by
  obtain⟨hlt,h2⟩:=List.getElem?_eq_some_iff.1 hv;have h3:n<(⟨l.toArray⟩:ByteArray).size:=by simpa[ByteArray.size]using hlt
  rw[getElem?_pos (⟨l.toArray⟩:ByteArray) n h3];exact congrArg some h2
 simp[execOp,ho,e1,e2,Instr.index,asIntOf,Result.andThen,run_underlying hT,h0]
theorem Yh{all:Array Oper}{o:Oper}{r:List Oper}{d t g m e:Nat}{ea:Bool}{i:Operand}{l:List Nat}{n:Nat}{kk:IntKind}(hgl:(g,l)∈Q4 P)(hi:ev s i=some (.pv (.int kk (n:Int))))(hn:n<m)(hT:tk P t= .arr m e 1 ea)
  (hk:AW P R Φ .normal (.ops all r::k) C (put d (.ra (.agg (l.map fun(j:Nat)=>PV.int .u8 (j:Int))) n) s)) (hg:o.guard=none:=by rfl) (hd:o.dst=some d:=by rfl) (ho:o.op= .indexAddr t (.global g) i:=by rfl):AW P R Φ .normal (.ops all (o::r)::k) C s:=by
 refine oy hg hd (fun c hc=>by rw[ho]at hc;cases hc) ⟨rfl,by simp[SV.on],by simp[SV.pts]⟩ (fun B E a w hG hE=>⟨.pointer (some ⟨g,0+n,none⟩), ?_, ?_⟩) hk
 ·have e2:=Vs hE hi;obtain⟨hu,hez⟩:=H3 hT;obtain⟨inf,hinf,hsz⟩:=fy (P:=P) (t:=e) (by omega)
  have e3:a.eval (.global g)= .pointer (some ⟨g,0,none⟩):=rfl;have:(0:Int)≤(n:Int)∧(n:Int)<(m:Int):=by omega
  simp[execOp,ho,e2,e3,Instr.indexAt,asIntOf,run_underlying hu,run_sizeOf w hinf,this,Instr.sureAddr,gd,hez,hn]
 ·obtain⟨h1,h2,h3⟩:=hG g l hgl;refine RS.ra _ n (l.map fun(j:Nat)=>Value.int .u8 (j:Int)) ⟨g,0,none⟩ rfl ⟨by simp[PV.cells],by simp[PV.cells,PV.one],fun i c v hc hv=> ?_⟩ (fun i v hv=>⟨h1, ?_⟩)
  ·simp only[PV.cells,z00,z03]at hc hv;obtain⟨x,hx,rfl⟩:=hc;obtain⟨y,hy,rfl⟩:=hv;rw[hx]at hy;cases hy
   exact .int _ _
  ·simp only[z00,z03]at hv;obtain⟨y,hy,rfl⟩:=hv;simpa using h3 i y hy
def la:TK→PV→Bool
 | .int k,.int k' _=>decide (k=k')
 | .str,.str _=>true
 |_,_=>false
def afm(a u:PV):Option (List (PV×PV))→Option (List (PV×PV))
 |some r=>some ((a,u)::r)
 |none=>none
def Kx(k v:PV):List (PV×PV)→Option (List (PV×PV))
 |[]=>some [(k,v)]
 |(a,u)::r=>(match At k a with
  |some true=>some ((k,v)::r)
  |some false=>afm a u (Kx k v r)
  |none=>none)
def Qv(A:Nat→Prop)(w:World)(es:List (PV×PV))(ms:List MapEntry):Prop:=ms.length=es.length∧∀(i:Nat) (kv:PV×PV) (m:MapEntry),es[i]?=some kv→ms[i]?=some m→RO A w kv.1 m.key∧RO A w kv.2 m.val
theorem Qv.cons{A:Nat→Prop}{w:World}{kv:PV×PV}{es:List (PV×PV)}{ms:List MapEntry}(h:Qv A w (kv::es) ms):∃m r,ms=m::r∧RO A w kv.1 m.key∧RO A w kv.2 m.val∧Qv A w es r:=by
 cases ms with
 |nil=>simp[Qv]at h
 |cons m r=>
  obtain⟨h1,h2⟩:=h;obtain⟨k1,k2⟩:=h2 0 kv m rfl rfl;exact⟨m,r,rfl,k1,k2,by simpa using h1,fun i kv' m' hk hm=>h2 (i+1) kv' m' (by simpa using hk) (by simpa using hm)⟩
theorem Qv.mk{A:Nat→Prop}{w:World}{kv:PV×PV}{es:List (PV×PV)}{m:MapEntry}{r:List MapEntry}(h1:RO A w kv.1 m.key)(h2:RO A w kv.2 m.val)(h:Qv A w es r):Qv A w (kv::es) (m::r):=by
 refine⟨by simp[h.1],fun i kv' m' hk hm=> ?_⟩
 cases i with
 |zero=>simp at hk hm;subst hk;subst hm;exact⟨h1,h2⟩
 |succ i=>exact h.2 i kv' m' (by simpa using hk) (by simpa using hm)
theorem Qk(a b:List UInt8):((⟨a.toArray⟩:ByteArray)==⟨b.toArray⟩)=(a==b):=by
 rw[Bool.eq_iff_iff,bytes_beq,beq_iff_eq];constructor
 ·intro h;have:=congrArg (fun x:ByteArray=>x.data.toList) h
  simpa using this
 ·rintro rfl;rfl
theorem wi{A:Nat→Prop}{w:World}{t:Nat}{d:TypeDesc}{k a:PV}{x y:Value}{b:Bool}(hu:P.underlying t=some d)(hf:la (tk P t) k=true)(h:At k a=some b)(hx:RO A w k x)(hy:RO A w a y):Instr.sameNow d x y=some b:=by
 cases k<;>cases a<;>simp[At]at h
 ·rename_i k1 n1 k2 n2;cases hx;cases hy
  obtain⟨rfl,rfl⟩:=h;cases hk:tk P t<;>rw[hk]at hf<;>simp[la]at hf
  have:=r5 hk;rw[hu]at this;cases this
  simp[Instr.sameNow]
 ·cases hx;cases hy
  cases hk:tk P t<;>rw[hk]at hf<;>simp[la]at hf
  have:=rz hk;rw[hu]at this;cases this
  simp only[Instr.sameNow];rw[Qk,h]
theorem A1{A:Nat→Prop}{w:World}{t:Nat}{d:TypeDesc}{k:PV}{x:Value}(hu:P.underlying t=some d)(hf:la (tk P t) k=true)(hx:RO A w k x):IsKey d x:=by
 cases k<;>cases hk:tk P t<;>rw[hk]at hf<;>simp[la]at hf
 ·have:=r5 hk;rw[hu]at this;cases this
  cases hx;simp[IsKey,hf]
 ·have:=rz hk;rw[hu]at this;cases this
  cases hx;simp[IsKey]
theorem J7{A:Nat→Prop}{w:World}{t:Nat}{d:TypeDesc}{k:PV}{x:Value}(hu:P.underlying t=some d)(hf:la (tk P t) k=true)(hx:RO A w k x):∀ {es:List (PV×PV)} {ms:List MapEntry} (n:Nat) {r:Option PV},Qv A w es ms→As k es=some r→
  (r=none∧Instr.findNow d x ms n=some none)∨∃p i v,r=some p∧Instr.findNow d x ms n=some (some (i,v))∧RO A w p v
 |[],ms,n,r,hm,h=>by
  have:ms=[]:=z02 hm.1;subst this;simp[As]at h;exact .inl ⟨h.symm,rfl⟩
 |(a,v)::es,ms,n,r,hm,h=>by
  obtain⟨m,rest,rfl,h1,h2,h3⟩:=hm.cons;simp only[As]at h;split at h
  ·rename_i he;cases h
   exact .inr ⟨v,n,m.val,rfl,by simp[Instr.findNow,wi hu hf he hx h1],h2⟩
  ·rename_i he;have:=wi hu hf he hx h1;simp only[Instr.findNow,this];exact J7 hu hf hx (n+1) h3 h
  ·cases h
def Gm(z:PV):Option PV→PV×Bool
 |some v=>(v,true)
 |none=>(z,false)
theorem Jy{B:Bs}{E:Env}{a:Act}{w:World}{o:Oper}{t kt et ob:Nat}{x i:Operand}{ok:Bool}{key z:PV}{es:List (PV×PV)}{r:Option PV}(hE:Rel P B.O B.w B.F s E a.tmps w)
  (ho:o.op= .lookup t x i ok) (hT:tk P t= .map kt et) (hf:la (tk P kt) key=true) (hx:ev s x=some (.mp ob)) (hi:ev s i=some (.pv key)) (hes:aj ob s.hp=some (.mp es)) (hm:As key es=some r) (hz:ax P et=some z):
  ∃v,RO (fun b=>E.om b∨B.F b) w (Gm z r).1 v∧(execOp a.eval o).run P w= .ok (.value (if ok then .tuple #[v,.bool (Gm z r).2]else v)) w:=by
 have hu:=Vj hT;obtain⟨hom,ms,clock,hb,hsz,hro⟩:=hE.obj ob _ hes;have e1:a.eval x= .map (some (E.obj ob)):=by
  have:=cq hE hx;generalize a.eval x=y at this;cases this;rfl
 have e2:RO (fun b=>E.om b∨B.F b) w key (a.eval i):=by
  have:=cq hE hi;cases this with|pv _ _ h=>exact h
 obtain⟨inf,zv,hinf,hzv,_,hzr,_⟩:=nz (P:=P) (w:=w) (A:=fun b=>E.om b∨B.F b) hz
 have hkd:∃d,P.underlying kt=some d:=by
  cases hk:tk P kt<;>rw[hk]at hf<;>simp[la]at hf
  ·exact⟨_,r5 hk⟩
  ·exact⟨_,rz hk⟩
 obtain⟨d,hkd⟩:=hkd;have hmro:Qv (fun b=>E.om b∨B.F b) w es ms.toList:=⟨by simpa using hsz,fun i kv m hk hm=>hro i kv m hk (by simpa using hm)⟩
 have hck:=run_checkKey (w:=w) hkd (A1 hkd hf e2) ms.isEmpty 9999;have hzrun:(zeroValue et).run P w= .ok zv w:=by simp[zeroValue,typeInfo,hinf,hzv,Result.andThen]
 rcases J7 hkd hf e2 0 hmro hm with⟨rfl,hfn⟩|⟨p,j,v,rfl,hfn,hv⟩
 ·refine⟨zv,hzr, ?_⟩;simp[execOp,ho,e1,Instr.lookup,run_underlying hu,Result.andThen,kx hb,hck,run_findKey hkd hfn,hzrun,Gm]
 ·refine⟨v,hv, ?_⟩;simp[execOp,ho,e1,Instr.lookup,run_underlying hu,Result.andThen,kx hb,hck,run_findKey hkd hfn,Gm]
theorem AW.lookup{all:Array Oper}{o:Oper}{rr:List Oper}{d t kt et ob:Nat}{x i:Operand}{key z:PV}{es:List (PV×PV)}{r:Option PV}
  (hx:ev s x=some (.mp ob)) (hi:ev s i=some (.pv key)) (hes:aj ob s.hp=some (.mp es)) (hm:As key es=some r) (hT:tk P t= .map kt et) (hf:la (tk P kt) key=true) (hz:ax P et=some z)
  (hk:AW P R Φ .normal (.ops all rr::k) C (put d (.pv (Gm z r).1) s)) (hg:o.guard=none:=by rfl) (hd:o.dst=some d:=by rfl) (ho:o.op= .lookup t x i false:=by rfl):AW P R Φ .normal (.ops all (o::rr)::k) C s:=by
 refine oy hg hd (fun c hc=>by rw[ho]at hc;cases hc) (.pv _ _) (fun B E a w _ hE=> ?_) hk
 obtain⟨v,h1,h2⟩:=Jy hE ho hT hf hx hi hes hm hz;exact⟨v,by simpa using h2,.pv _ _ h1⟩
theorem Yg{all:Array Oper}{o:Oper}{rr:List Oper}{d t kt et ob:Nat}{x i:Operand}{key z:PV}{es:List (PV×PV)}{r:Option PV}
  (hx:ev s x=some (.mp ob)) (hi:ev s i=some (.pv key)) (hes:aj ob s.hp=some (.mp es)) (hm:As key es=some r) (hT:tk P t= .map kt et) (hf:la (tk P kt) key=true) (hz:ax P et=some z)
  (hk:AW P R Φ .normal (.ops all rr::k) C (tg d [.pv (Gm z r).1,.pv (.bool (Gm z r).2)] s)) (hg:o.guard=none:=by rfl) (hd:o.dst=some d:=by rfl) (ho:o.op= .lookup t x i true:=by rfl):AW P R Φ .normal (.ops all (o::rr)::k) C s:=fun B a w ha=>by
 simp only[mz];refine cb (by simp[Region.wanted,hg]) (fun c hc=>by rw[ho]at hc;cases hc) ?_
 obtain⟨hdf,E,hE⟩:=ha;obtain⟨v,h1,h2⟩:=Jy hE ho hT hf hx hi hes hm hz;rw[h2,Oper.uponIn_value,hd];obtain⟨E',hE'⟩:=mn hE (ρ:=id) (rs:=[.pv (Gm z r).1,.pv (.bool (Gm z r).2)]) (us:=[v,.bool (Gm z r).2]) d rfl rfl (fun i q y hq hy=>by
  match i with
  |0=>
   simp at hq hy;subst hq;subst hy
   exact⟨fun e xs he=>(by cases he),fun _ _=> .inr (.pv _ _ h1),fun o ho=>(by simp[SV.pts]at ho)⟩
  |1=>
   simp at hq hy;subst hq;subst hy
   exact⟨fun e xs he=>(by cases he),fun _ _=> .inr (.pv _ _ (.bool _)),fun o ho=>(by simp[SV.pts]at ho)⟩
  |i+2=>simp at hq)
 exact hk B _ w ⟨by rw[cz];exact hdf,E',hE'⟩
end
end Go.Ck
namespace Go.Ck
open Go.RowKit Go.MapKept
section
variable {P : Program} {O0 : Base} {F : Nat → Prop} {w0 w : World} {s : St} {E : Env} {tmps : Array Value}
theorem Rel.setMap(h:Rel P O0 w0 F s E tmps w){o:Nat}{es es':List (PV×PV)}{ms':Array MapEntry}{ck:Nat}(hl:aj o s.hp=some (.mp es))(hs:ms'.size=es'.length)
  (hv:∀(i:Nat) (kv:PV×PV) (m:MapEntry),es'[i]?=some kv→ms'[i]?=some m→RO (fun b=>E.om b∨F b) w kv.1 m.key∧RO (fun b=>E.om b∨F b) w kv.2 m.val):
  Rel P O0 w0 F ⟨s.n,s.sl,setObj o (.mp es') s.hp⟩ E tmps { w with heap:=w.heap.setIfInBounds (E.obj o) (.map ms' ck) } :=by
 obtain⟨hom,ms,c0,hb,hsz,hro⟩:=h.obj o _ hl;obtain⟨hnew,hblk⟩:=heap_set (o':= .map ms' ck) hb
 let w':World:= { w with heap:=w.heap.setIfInBounds (E.obj o) (.map ms' ck) }
 have hblk:∀b,b≠E.obj o→w'.heap[b]?=w.heap[b]?:=hblk
 have hsz':w'.heap.size=w.heap.size:=by simp[w']
 have hA:∀b,b<w.heap.size→¬(E.om b∨F b)→¬(E.om b∨F b)∧w'.heap[b]?=w.heap[b]?:=fun b hb' hn=>⟨hn,hblk b (by rintro rfl;exact hn (.inl hom))⟩
 have hhp:∀o' z,aj o' (setObj o (.mp es') s.hp)=some z→(o'=o∧z= .mp es')∨(o'≠o∧aj o' s.hp=some z):=by
  intro o' z hz;rw[dm]at hz;split at hz
  ·rename_i ho;subst ho;simp[hl]at hz;exact .inl ⟨rfl,hz.symm⟩
  ·rename_i ho;exact .inr ⟨ho,hz⟩
 have hhp':∀o' z,aj o' s.hp=some z→∃z',aj o' (setObj o (.mp es') s.hp)=some z':=by
  intro o' z hz;rw[dm];split
  ·rename_i ho;subst ho;simp[hl]
  ·exact⟨z,hz⟩
 have hlk:∀o' z,aj o' (setObj o (.mp es') s.hp)=some z→∃z',aj o' s.hp=some z':=by
  intro o' z hz;rcases hhp o' z hz with⟨rfl,_⟩|⟨_,h2⟩
  ·exact⟨_,hl⟩
  ·exact⟨_,h2⟩
 have hat:∀p,(St.mk s.n s.sl (setObj o (.mp es') s.hp)).at p=s.at p:=by
  intro p;cases p with
  |slot d=>rfl
  |part d i=>rfl
  |cell o' i=>
   simp only[St.at];rw[dm];by_cases ho:o'=o
   ·subst ho;simp[hl]
   ·rw[if_neg ho]
 have hPV:∀p u x,ip P (fun b=>E.om b∨F b) E w p u x→(∀e' xs,u= .own e' xs→∀b,(E.hdr p).ownBlock=some b→b≠E.obj o)→ip P (fun b=>E.om b∨F b) E w' p u x:=by
  intro p u x hp hne;cases u<;>simp only[ip]at hp⊢
  case own e' xs=>
   obtain⟨h2,h3,h4⟩:=hp;exact⟨h2,h3.kept hA (fun b hb'=>hblk b (hne e' xs rfl b hb')),h4⟩
  case tup us=>exact hp
  all_goals exact hp.grow hA
 refine { place:=fun p u hp=> ?_,obj:=fun o' z hz=> ?_,size:=h.size,i1:=fun a b x x' hx hx' he=> ?_,i2:=fun p q e xs e' ys b hp hq=>h.i2 p q e xs e' ys b (by rw[←hat];exact hp) (by rw[←hat];exact hq),i3:=fun p e xs o' z b hp hz hb'=> ?_,om_lt:=fun b hb'=>by have:=h.om_lt b hb';simpa using this,om0:=h.om0,na:=fun p v q hp hq=> ?_,np:=fun p v o' hp ho=> ?_,gr:= ?_,flt:=h.flt,ob:=fun o' k hok=> ?_ }
 ·rw[hat]at hp;obtain⟨x,hx,hpv⟩:=h.place p u hp;refine⟨x, ?_,hPV p u x hpv (fun e' xs he b hb'=> ?_)⟩
  ·cases p with
   |slot d=>exact hx
   |part d j=>exact hx
   |cell o' j=>
    simp only[CV]at hx⊢;have:∃e cs,aj o' s.hp=some (.cells e cs):=by
     simp only[St.at]at hp;split at hp
     ·rename_i e cs he;exact⟨e,cs,he⟩
     ·cases hp
    obtain⟨e,cs,hz⟩:=this;have hne':E.obj o'≠E.obj o:=fun he=>by
     have:=h.i1 o' o _ _ hz hl he;subst this;rw[hl]at hz;cases hz
    exact(World.cell?_of_block (w:=w) (a:=⟨E.obj o',j,none⟩) (hblk _ hne')).trans hx
  ·subst he;exact fun hbo=>h.i3 p e' xs o _ b hp hl hb' hbo.symm
 ·rcases hhp o' z hz with⟨rfl,rfl⟩|⟨hne,hz'⟩
  ·exact⟨hom,ms',ck,hnew,hs,fun i kv m hk hm=>⟨(hv i kv m hk hm).1.mono hA,(hv i kv m hk hm).2.mono hA⟩⟩
  ·obtain⟨h2,h3⟩:=h.obj o' z hz';refine⟨h2, ?_⟩;have hne':E.obj o'≠E.obj o:=fun he=>hne (h.i1 o' o z _ hz' hl he)
   have hb':=hblk (E.obj o') hne';cases z with
   |cells e' cs'=>
    obtain⟨us,h4,h5⟩:=h3;exact⟨us,hb'.trans h4,h5⟩
   |mp es2=>
    obtain⟨ms2,c,h4,h5,h6⟩:=h3;exact⟨ms2,c,hb'.trans h4,h5,fun j kv m hk hm=>⟨(h6 j kv m hk hm).1.mono hA,(h6 j kv m hk hm).2.mono hA⟩⟩
 ·obtain⟨z,hz⟩:=hlk a x hx;obtain⟨z',hz'⟩:=hlk b x' hx';exact h.i1 a b z z' hz hz' he
 ·obtain⟨z',hz'⟩:=hlk o' z hz;exact h.i3 p e xs o' z' b (by rw[←hat];exact hp) hz' hb'
 ·obtain⟨k1,⟨e,xs,k2⟩,k3⟩:=h.na p v q (by rw[←hat];exact hp) hq
  exact⟨k1,⟨e,xs,by rw[hat];exact k2⟩,k3⟩
 ·obtain⟨z,hz⟩:=h.np p v o' (by rw[←hat];exact hp) ho
  exact hhp' o' z hz
 ·refine h.gr.trans (M1:=fun b=>b=E.obj o) ⟨rfl,rfl,rfl,by simp,fun b _ hb'=>hblk b hb'⟩ (fun b hb'=> ?_)
  subst hb';exact h.om0 _ hom
 ·obtain⟨h1,y,hy⟩:=h.ob o' k hok;exact⟨h1,hhp' o' y hy⟩
end
theorem Tu{A:Nat→Prop}{w:World}{k a:PV}{x y:Value}(h:At k a=some true)(hx:RO A w k x)(hy:RO A w a y):x=y∧Instr.sameBits 10000 y x=true:=by
 cases k<;>cases a<;>simp[At]at h
 ·cases hx;cases hy
  obtain⟨rfl,rfl⟩:=h;exact⟨rfl,by simp[Instr.sameBits]⟩
 ·cases hx;cases hy
  subst h;refine⟨rfl, ?_⟩;simp only[Instr.sameBits];exact(bytes_beq _ _).2 rfl
theorem J6{P:Program}{A:Nat→Prop}{w:World}{t:Nat}{d:TypeDesc}{k v:PV}{x y:Value}{ck:Nat}(hu:P.underlying t=some d)(hf:la (tk P t) k=true)(hx:RO A w k x)(hy:RO A w v y):
  ∀ {es es':List (PV×PV)} {ms:List MapEntry} (n:Nat),Qv A w es ms→Kx k v es=some es'→
  (Instr.findNow d x ms n=some none∧Qv A w es' (ms++[{ key:=x,val:=y,born:=ck }]))∨
   ∃i u m,Instr.findNow d x ms n=some (some (n+i,u))∧ms[i]?=some m∧m.key=x∧Instr.sameBits 10000 m.key x=true∧Qv A w es' (ms.set i { m with key:=x,val:=y })
 |[],es',ms,n,hm,h=>by
  have:ms=[]:=z02 hm.1;subst this;simp[Kx]at h;subst h;exact .inl ⟨rfl,Qv.mk hx hy hm⟩
 |(a,u)::es,es',ms,n,hm,h=>by
  obtain⟨m,rest,rfl,h1,h2,h3⟩:=hm.cons;simp only[Kx]at h;split at h
  ·rename_i he;cases h
   obtain⟨e1,e2⟩:=Tu he hx h1;exact .inr ⟨0,m.val,m,by simp[Instr.findNow,wi hu hf he hx h1],rfl,e1.symm,e2,Qv.mk hx hy h3⟩
  ·rename_i he;have hsn:=wi hu hf he hx h1;unfold afm at h;split at h
   ·rename_i r hr;cases h
    rcases J6 hu hf hx hy (n+1) h3 hr with⟨k1,k2⟩|⟨i,u',m',k1,k2,k3,k4,k5⟩
    ·exact .inl ⟨by simp[Instr.findNow,hsn,k1],Qv.mk h1 h2 k2⟩
    ·refine .inr ⟨i+1,u',m', ?_,by simpa using k2,k3,k4,by simpa using Qv.mk h1 h2 k5⟩
     simp only[Instr.findNow,hsn,k1];rw[show n+1+i=n+(i+1)by omega]
   ·cases h
  ·cases h
section
variable {P : Program} {R : Option Nat} {Φ : Exit → Cx → St → Prop} {k : List It} {C : Cx} {s : St}
theorem Nv{all:Array Oper}{o:Oper}{rr:List Oper}{t kt et ob:Nat}{x i y:Operand}{key v:PV}{es es':List (PV×PV)}
  (hx:ev s x=some (.mp ob)) (hi:ev s i=some (.pv key)) (hy:ev s y=some (.pv v)) (hes:aj ob s.hp=some (.mp es)) (hm:Kx key v es=some es') (hT:tk P t= .map kt et) (hf:la (tk P kt) key=true)
  (hk:AW P R Φ .normal (.ops all rr::k) C ⟨s.n,s.sl,Ck.setObj ob (.mp es') s.hp⟩) (hg:o.guard=none:=by rfl) (hd:o.dst=none:=by rfl) (ho:o.op= .mapUpdate t x i y:=by rfl):AW P R Φ .normal (.ops all (o::rr)::k) C s:=fun B a w ha=>by
 simp only[mz];refine cb (by simp[Region.wanted,hg]) (fun c hc=>by rw[ho]at hc;cases hc) ?_
 obtain⟨hdf,E,hE⟩:=ha;have hu:=Vj hT;obtain⟨hom,ms,clock,hb,hsz,hro⟩:=hE.obj ob _ hes;have e1:a.eval x= .map (some (E.obj ob)):=by
  have:=cq hE hx;generalize a.eval x=y at this;cases this;rfl
 have e2:RO (fun b=>E.om b∨B.F b) w key (a.eval i):=by
  have:=cq hE hi;cases this with|pv _ _ h=>exact h
 have e3:RO (fun b=>E.om b∨B.F b) w v (a.eval y):=by
  have:=cq hE hy;cases this with|pv _ _ h=>exact h
 have hkd:∃d,P.underlying kt=some d:=by
  cases hk:tk P kt<;>rw[hk]at hf<;>simp[la]at hf
  ·exact⟨_,r5 hk⟩
  ·exact⟨_,rz hk⟩
 obtain⟨d,hkd⟩:=hkd;have hmro:Qv (fun b=>E.om b∨B.F b) w es ms.toList:=⟨by simpa using hsz,fun i kv m hk hm=>hro i kv m hk (by simpa using hm)⟩
 have hck:=run_checkKey (w:=w) hkd (A1 hkd hf e2) false 9999;have fin:∀(ms':Array MapEntry) (ck:Nat),Qv (fun b=>E.om b∨B.F b) w es' ms'.toList→(execOp a.eval o).run P w= .ok .skip { w with heap:=w.heap.setIfInBounds (E.obj ob) (.map ms' ck) } →o.uponIn (eg R) 0 P a (wpListIn (eg R) 0 P all (mz P R Φ k) rr) (mz P R Φ k) ((execOp a.eval o).run P w):=by
  intro ms' ck h1 h2;rw[h2,Oper.uponIn_skip,hd];exact hk B a _ ⟨hdf,E,hE.setMap hes (by simpa using h1.1) (fun i kv m hk hm=>h1.2 i kv m hk (by simpa using hm))⟩
 rcases J6 (ck:=clock) hkd hf e2 e3 0 hmro hm with⟨h1,h2⟩|⟨j,u,m,h1,h2,h3,h4,h5⟩
 ·refine fin (ms.push { key:=a.eval i,val:=a.eval y,born:=clock }) (clock+1) (by simpa using h2) ?_
  simp[execOp,ho,e1,Instr.mapUpdate,run_underlying hu,Result.andThen,kx hb,hck,run_findKey hkd h1,run_setObj_map _ hb]
 ·rw[Nat.zero_add]at h1;have h2':ms[j]?=some m:=by simpa using h2
  have hmod:ms.modify j (fun e=> { e with key:=a.eval i,val:=a.eval y })=ms.setIfInBounds j { m with key:=a.eval i,val:=a.eval y } :=by
   apply Array.ext_getElem?
   intro q;rw[Array.getElem?_modify,Array.getElem?_setIfInBounds];by_cases hq:j=q
   ·subst hq;have hlt:=(Array.getElem?_eq_some_iff.1 h2').1;rw[if_pos rfl,if_pos rfl,if_pos hlt,h2'];rfl
   ·simp[hq]
  refine fin (ms.setIfInBounds j { m with key:=a.eval i,val:=a.eval y }) clock (by simpa using h5) ?_
  simp[execOp,ho,e1,Instr.mapUpdate,run_underlying hu,Result.andThen,kx hb,hck,run_findKey hkd h1,run_setObj_map _ hb,Instr.keyThatStays,h2',h4,hmod]
end
end Go.Ck
namespace Go.Ck
open Go.RowKit
def WI(P:Program){α:Type}(m:Sem α):Prop:=∀w x w1,m.run P w= .ok x w1→w1=w∧∀w',m.run P w'= .ok x w'
section
variable {P : Program}
theorem WI.pure{α:Type}(x:α):WI P (Pure.pure x:Sem α):=fun w y w1 h=>by
 simp only[Sem.run_pure,Result.ok.injEq]at h;obtain⟨rfl,rfl⟩:=h;exact⟨rfl,fun w'=>Sem.run_pure ..⟩
theorem WI.bind{α β:Type}{m:Sem α}{f:α→Sem β}(h:WI P m)(k:∀x,(∃w,m.run P w= .ok x w)→WI P (f x)):WI P (m>>=f):=fun w y w1 hr=>by
 rw[Sem.run_bind]at hr;cases hm:m.run P w with
 |ok x w2=>
  rw[hm]at hr;obtain⟨rfl,h2⟩:=h w x w2 hm;simp only[Result.andThen_ok]at hr;obtain⟨rfl,h4⟩:=k x ⟨_,hm⟩ _ y w1 hr;exact⟨rfl,fun w'=>by rw[Sem.run_bind,h2 w',Result.andThen_ok,h4 w']⟩
 |halt x w2=>rw[hm]at hr;simp[Result.andThen]at hr
theorem Do{α:Type}{m:Sem α}(h:∀w x w1,m.run P w≠ .ok x w1):WI P m:=fun w x w1 hr=>absurd hr (h w x w1)
theorem WI.stuck{α:Type}(s:String):WI P (Go.stuck s:Sem α):=Do (fun w x w1 h=>by simp[Go.stuck]at h)
theorem WI.unsupported{α:Type}(s:Unsupported):WI P (Go.unsupported s:Sem α):=Do (fun w x w1 h=>by simp[Go.unsupported]at h)
theorem o6{α β:Type}{r:Result α}{f:α→World→Result β}(h:∀x w y w1,f x w≠ .ok y w1)(y:β)(w1:World):r.andThen f≠ .ok y w1:=by
 cases r with
 |ok x w=>exact h x w y w1
 |halt c w=>simp[Result.andThen]
theorem p6{α:Type}(s:RuntimeError)(w:World)(x:α)(w1:World):(Go.runtimePanic s:Sem α).run P w≠ .ok x w1:=by
 unfold Go.runtimePanic;cases s<;>simp[goPanic,program]
 all_goals (refine o6 ?_ _ _;intro x w y w1;first|(intro h;cases h;done)|(refine o6 ?_ _ _;intro x w y w1 h;cases h))
theorem WI.runtimePanic{α:Type}(s:RuntimeError):WI P (Go.runtimePanic s:Sem α):=Do (p6 s)
theorem WI.boundsPanic{α:Type}(k:IntKind)(x y:Int)(c:BoundsCode):WI P (Go.boundsPanic k x y c:Sem α):=Do (fun w z w1=>by
 unfold Go.boundsPanic
 dsimp only
 split
 ·rw[Sem.run_bind];exact o6 (fun x w y w1=>p6 _ _ _ _) _ _
 ·rw[Sem.run_bind];exact o6 (fun x w y w1=>p6 _ _ _ _) _ _)
theorem WI.underlying(t:TypeId):WI P (Go.underlying t):=fun w x w1 h=>by
 cases hu:P.underlying t with
 |some d=>rw[run_underlying hu]at h;cases h;exact⟨rfl,fun w'=>by rw[run_underlying hu]⟩
 |none=>simp[Go.underlying,program,Sem.run,hu,Go.stuck]at h
theorem WI.sizeOf(t:TypeId):WI P (Go.sizeOf t):=fun w x w1 h=>by
 cases hu:P.info? t with
 |some d=>rw[run_sizeOf w hu]at h;cases h;exact⟨rfl,fun w'=>run_sizeOf w' hu⟩
 |none=>simp[Go.sizeOf,typeInfo,program,Sem.run,hu,Go.stuck]at h
theorem WI.asIntOf(v:Value):WI P (Go.asIntOf v):=by
 unfold Go.asIntOf;split<;>first|exact .pure _|exact .unsupported _|exact .stuck _
theorem WI.sureAddr(v:Value):WI P (Instr.sureAddr v):=by
 unfold Instr.sureAddr;split<;>first|exact .pure _|exact .stuck _
theorem WI.asAddr(v:Value):WI P (Go.asAddr v):=by
 unfold Go.asAddr;split<;>first|exact .pure _|exact .stuck _|exact .runtimePanic _
theorem WI.ite{α:Type}{c:Prop} [Decidable c]{x y:Sem α}(h:WI P x)(k:WI P y):WI P (if c then x else y):=by split<;>assumption
theorem WI.sliceBound(x:Value)(y:Nat)(c:BoundsCode):WI P (Instr.sliceBound x y c):=by
 unfold Instr.sliceBound;refine .bind (.asIntOf _) (fun p _=> ?_)
 exact .ite (.pure _) (.boundsPanic _ _ _ _)
theorem WI.sliceBounds(b:Bool)(n c:Nat)(l h m:Option Value):WI P (Instr.sliceBounds b n c l h m):=by
 unfold Instr.sliceBounds
 dsimp only
 cases l<;>cases h<;>cases m<;>dsimp only
 all_goals repeat' (first|exact WI.pure _|exact WI.stuck _|exact WI.sliceBound _ _ _|refine WI.bind ?_ (fun _ _=> ?_))
theorem WI.slice(t:TypeId)(x:Value)(l h m:Option Value):WI P (Instr.slice t x l h m):=by
 unfold Instr.slice
 dsimp only
 repeat' (first|exact WI.pure _|exact WI.stuck _|exact WI.sliceBounds _ _ _ _ _ _|exact WI.sizeOf _|exact WI.asAddr _|exact WI.underlying _|refine WI.bind ?_ (fun _ _=> ?_)|split)
theorem WI.sliceAt(t:TypeId)(x:Value)(l h m:Option Value):WI P (Instr.sliceAt t x l h m):=by
 unfold Instr.sliceAt
 dsimp only
 repeat' (first|exact WI.pure _|exact WI.stuck _|exact WI.sliceBounds _ _ _ _ _ _|exact WI.sizeOf _|exact WI.sureAddr _|exact WI.underlying _|exact WI.slice _ _ _ _ _|refine WI.bind ?_ (fun _ _=> ?_)|split)
theorem WI.indexAt(t:TypeId)(x i:Value):WI P (Instr.indexAt t x i):=by
 unfold Instr.indexAt
 dsimp only
 repeat' (first|exact WI.pure _|exact WI.stuck _|exact WI.unsupported _|exact WI.asIntOf _|exact WI.sizeOf _|exact WI.sureAddr _|exact WI.underlying _|exact WI.boundsPanic _ _ _ _|refine WI.bind ?_ (fun _ _=> ?_)|split)
theorem WI.extract(x:Value)(i:Nat):WI P (Instr.extract x i):=by
 unfold Instr.extract;split
 ·split<;>first|exact .pure _|exact .stuck _
 ·exact .stuck _
theorem WI.binInt(op:BinOp)(t:TypeId)(k k':IntKind)(x y:Int):WI P (binOp op t (.int k x) (.int k' y)):=by
 unfold binOp;cases op<;>dsimp only[Op.shift,Op.intArith,Op.intDiv,Op.intBits,Op.intCmp]
 all_goals repeat' (first|exact WI.pure _|exact WI.stuck _|exact WI.runtimePanic _|split)
theorem WI.eqGuardInt(op:BinOp)(t:TypeId)(x y:Operand)(k k':IntKind)(a b:Int):WI P (eqGuard op t x y (.int k a) (.int k' b)):=by
 unfold eqGuard;cases op<;>exact .pure _
theorem WI.unInt(op:UnOp)(k:IntKind)(x:Int):WI P (Op.unary op (.int k x)):=by
 unfold Op.unary;cases op<;>first|exact .pure _|exact .stuck _
theorem WI.unBool(op:UnOp)(x:Bool):WI P (Op.unary op (.bool x)):=by
 unfold Op.unary;cases op<;>first|exact .pure _|exact .stuck _
theorem WI.convInt{t u:TypeId}{k j i:IntKind}{n:Int}(ht:P.underlying t=some (.int k))(hu:P.underlying u=some (.int j)):WI P (convert t u (.int i n)):=by
 refine fun w x w1 h=> ?_
 simp[convert,run_underlying ht,run_underlying hu,Result.andThen,Conv.intToInt]at h⊢;obtain⟨rfl,rfl⟩:=h;exact⟨rfl,rfl⟩
theorem WI.lenSlice{t e ty:TypeId}{a:Option Addr}{n c:Nat}(ht:P.underlying t=some (.slice e)):WI P (Builtin.len_ #[t] ty #[.slice a n c]):=by
 refine fun w x w1 h=> ?_
 simp[Builtin.len_,run_underlying ht,Result.andThen]at h⊢;obtain⟨rfl,rfl⟩:=h;exact⟨rfl,rfl⟩
end
end Go.Ck
namespace Go.Ck
open Go.RowKit
def A9:Option SV→Bool
 |some (.pv (.int _ _))=>true
 |_=>false
def G6:Option SV→Bool
 |some (.pv (.bool _))=>true
 |_=>false
def TK.isInt:TK→Bool
 | .int _=>true
 |_=>false
def TK.isSl:TK→Bool
 | .sl _ _ _ _=>true
 |_=>false
def aat(P:Program)(s:St):Op→Bool
 | .move _=>true
 | .assign _=>true
 | .binOp _ _ x y _=>A9 (ev s x)&&A9 (ev s y)
 | .unOp _ _ x=>A9 (ev s x)||G6 (ev s x)
 | .convert t u x=>(tk P t).isInt&& (tk P u).isInt&&A9 (ev s x)
 | .fieldAddr _ _ _=>true
 | .indexAddr _ _ _=>true
 | .slice _ _ _ _ _=>true
 | .extract _ _=>true
 | .call c=>(match c.callee with
  | .builtin .len=>(match c.argTypes.toList with|[t]=>(tk P t).isSl|_=>false)
  |_=>false)
 |_=>false
section
variable {P : Program} {O0 : Base} {F : Nat → Prop} {w0 w : World} {s : St} {E : Env} {a : Act}
theorem tr(h:Rel P O0 w0 F s E a.tmps w){x:Operand}(hx:A9 (ev s x)=true):∃k n,a.eval x= .int k n:=by
 unfold A9 at hx;split at hx
 ·rename_i k n he;have:=cq h he;generalize a.eval x=z at this;cases this with|pv _ _ h=>cases h;exact⟨k,n,rfl⟩
 ·cases hx
theorem P9(h:Rel P O0 w0 F s E a.tmps w){x:Operand}(hx:G6 (ev s x)=true):∃n,a.eval x= .bool n:=by
 unfold G6 at hx;split at hx
 ·rename_i n he;have:=cq h he;generalize a.eval x=z at this;cases this with|pv _ _ h=>cases h;exact⟨n,rfl⟩
 ·cases hx
theorem ag5(h:Rel P O0 w0 F s E a.tmps w){t f:Nat}{x:Operand}{v r:SV}(hx:ev s x=some v)(hv:kr P t v f=some r):WI P (Instr.fieldAt t (a.eval x) f):=by
 have hr:=cq h hx;generalize a.eval x=z at hr;unfold kr at hv;split at hv
 ·rename_i fs hT;obtain⟨fl,hu,rfl⟩:=Li hT;split at hv
  ·rename_i fo fz fa hf;rw[z00]at hf;cases hfl:fl.toList[f]? with
   |none=>rw[hfl]at hf;simp at hf
   |some fd=>
    rw[hfl]at hf;simp only[Option.map_some,Option.some.injEq]at hf;have hfl':fl[f]?=some fd:=by simpa using hfl
    split at hv
    ·simp at hv
    ·rename_i hz;obtain⟨rfl,hts⟩:=n4 hf hz;obtain⟨d,i,hud,hi,his,_⟩:=ka (w:=w) hts;have hgo:∀b o w',(Instr.fieldAt t (.pointer (some ⟨b,o,none⟩)) f).run P w'= .ok (.pointer (some ⟨b,o+fd.offset,none⟩)) w':=by
      intro b o w';have:P.cellsOf fd.type≠0:=by simp[Program.cellsOf,hi,his,hz]
      simp[Instr.fieldAt,run_underlying hu,hfl',Instr.sureAddr,fieldPlace,run_sizeOf w' hi,this,gd]
     have fin:∀b o,WI P (Instr.fieldAt t (.pointer (some ⟨b,o,none⟩)) f):=fun b o w1 y w2 hr=>by
      rw[hgo]at hr;cases hr;exact⟨rfl,fun w'=>hgo b o w'⟩
     cases hr<;>simp at hv<;>exact fin _ _
  ·simp at hv
 ·simp at hv
theorem anj(h:Rel P O0 w0 F s E a.tmps w){o:Oper}{d:Nat}{s':St}(hd:o.dst=some d)(hw:aat P s o.op=true)(hs:du P o s=some s'):WI P (execOp a.eval o)∧∀w,o.about P w a.eval=none:=by
 have hab:(∀c,o.op≠ .call c)→∀w,o.about P w a.eval=none:=fun hn w=>by
  unfold Oper.about;cases ho:o.op<;>first|rfl|exact absurd ho (hn _)
 have hV:∀ {m:Sem Value},WI P m→WI P (do pure (Next.value (←m)):Sem Next):=fun hm=> .bind hm (fun _ _=> .pure _)
 unfold du at hs;rw[hd]at hs;simp only at hs;cases ho:o.op<;>rw[ho]at hw hs<;>simp only[aat,Bool.false_eq_true]at hw
 case move x=>exact⟨by simp only[execOp,ho];exact .pure _,hab (by simp[ho])⟩
 case assign x=>exact⟨by simp only[execOp,ho];exact .pure _,hab (by simp[ho])⟩
 case binOp op t x y u=>
  simp only[z01]at hw;obtain⟨k1,n1,e1⟩:=tr h hw.1;obtain⟨k2,n2,e2⟩:=tr h hw.2;refine⟨?_,hab (by simp[ho])⟩
  simp only[execOp,ho,e1,e2];exact hV (.bind (.eqGuardInt _ _ _ _ _ _ _ _) (fun _ _=> .binInt _ _ _ _ _ _))
 case unOp op t x=>
  simp only[Bool.or_eq_true]at hw;refine⟨?_,hab (by simp[ho])⟩
  simp only[execOp,ho];rcases hw with hw|hw
  ·obtain⟨k1,n1,e1⟩:=tr h hw;rw[e1];exact hV (.unInt _ _ _)
  ·obtain⟨n1,e1⟩:=P9 h hw;rw[e1];exact hV (.unBool _ _)
 case convert t u x=>
  simp only[z01]at hw;obtain⟨k1,n1,e1⟩:=tr h hw.2;refine⟨?_,hab (by simp[ho])⟩
  simp only[execOp,ho,e1];have ht:∃k,tk P t= .int k:=by
   have:=hw.1.1;cases hk:tk P t<;>rw[hk]at this<;>simp[TK.isInt]at this
   exact⟨_,rfl⟩
  have hu:∃k,tk P u= .int k:=by
   have:=hw.1.2;cases hk:tk P u<;>rw[hk]at this<;>simp[TK.isInt]at this
   exact⟨_,rfl⟩
  obtain⟨k,ht⟩:=ht;obtain⟨j,hu⟩:=hu;exact hV (.convInt (r5 ht) (r5 hu))
 case fieldAddr t x f=>
  refine⟨?_,hab (by simp[ho])⟩
  simp only[reads,if_true,Nz,aval]at hs;simp only[execOp,ho];cases hx:ev s x with
  |none=>rw[hx]at hs;simp at hs
  |some v=>
   rw[hx]at hs;simp only at hs;cases hr:kr P t v f with
   |none=>rw[hr]at hs;simp at hs
   |some r=>exact hV (ag5 h hx hr)
 case indexAddr t x i=>exact⟨by simp only[execOp,ho];exact hV (.indexAt _ _ _),hab (by simp[ho])⟩
 case slice t x l hh m=>exact⟨by simp only[execOp,ho];exact hV (.sliceAt _ _ _ _ _),hab (by simp[ho])⟩
 case extract x i=>exact⟨by simp only[execOp,ho];exact hV (.extract _ _),hab (by simp[ho])⟩
 case call c=>
  split at hw
  ·rename_i hc;split at hw
   ·rename_i t ht;have hT:∃e ez eb ea,tk P t= .sl e ez eb ea:=by
     cases hk:tk P t<;>rw[hk]at hw<;>simp[TK.isSl]at hw
     exact⟨_,_,_,_,rfl⟩
    obtain⟨e,ez,eb,ea,hT⟩:=hT;obtain⟨hu,_,_⟩:=p9 hT;have hrd:reads (.call c)=true:=by simp[reads,hc]
    rw[hrd]at hs;simp only[if_true]at hs;cases hv:aval P s o.type (.call c)with
    |none=>rw[hv]at hs;simp[Nz]at hs
    |some v=>
     obtain⟨x,h1,h2⟩:=sm (o:=o) (d:=d) h (by rw[ho];exact hv)
     have hrun:∀w',(execOp a.eval o).run P w'=(do pure (Next.value (←Builtin.len_ c.argTypes o.type (c.args.map a.eval))):Sem Next).run P w':=by
      intro w';simp[execOp,ho,resolve,hc,invoke,builtin]
     have hat:c.argTypes= #[t]:=by apply z04;simpa using ht
     refine⟨fun w1 y w2 hr=> ?_,fun w=>by unfold Oper.about;rw[ho];simp[resolve,hc,Target.leads]⟩
     rw[hrun]at hr;have hwi:WI P (Builtin.len_ c.argTypes o.type (c.args.map a.eval)):=by
      rw[hat];cases hargs:c.args.toList with
      |nil=>
       have:c.args= #[]:=by apply z04;simpa using hargs
       simp[aval,hc,ht,evs,this]at hv
      |cons x0 r=>
       cases r with
       |cons y r=>
        simp only[aval,hc,ht,hargs]at hv;have hl:∀l vs,evs s l=some vs→vs.length=l.length:=by
         intro l
         induction l with
         |nil=>intro vs h;simp[evs]at h;subst h;rfl
         |cons x l ih=>
          intro vs h;simp only[evs]at h;split at h
          ·rename_i u us _ h2;cases h
           simp[ih us h2]
          ·cases h
        split at hv
        ·rename_i u t1 he ht1;have:=hl _ _ he;simp at this
        ·cases hv
       |nil=>
        have ha:c.args= #[x0]:=by apply z04;simpa using hargs
        simp only[aval,hc,ht,hargs,evs]at hv;cases hx:ev s x0 with
        |none=>rw[hx]at hv;simp at hv
        |some v0=>
         rw[hx]at hv;simp only at hv;have hr0:=cq h hx;rw[ha];simp only[List.map_toArray,List.map_cons,List.map_nil];generalize a.eval x0=z at hr0;rw[hT]at hv;have:∃b n cc,z= .slice b n cc:=by
          cases hr0<;>simp[lenT,alen,cont,intO]at hv
          case pv p hp=>
           cases hp<;>simp[alen,cont]at hv
           exact⟨_,_,_,rfl⟩
          case nils=>exact⟨_,_,_,rfl⟩
          case al p=>
           cases hpp:s.at p with
           |none=>simp[hpp]at hv
           |some u=>
            cases u<;>simp[hpp]at hv
            obtain⟨cs,h5,_⟩:=h.own hpp;rcases h5.2 with⟨e1,_⟩|⟨g,cap,cur,e1,_⟩
            ·exact⟨_,_,_,e1⟩
            ·exact⟨_,_,_,e1⟩
          case vw p e' off n hvw=>
           obtain⟨_,b,cap,rfl,_⟩:=hvw;exact⟨_,_,_,rfl⟩
         obtain⟨b,n,cc,rfl⟩:=this;exact .lenSlice hu
     obtain⟨q1,q2⟩:=hV hwi w1 y w2 hr;exact⟨q1,fun w'=>by rw[hrun];exact q2 w'⟩
   ·cases hw
  ·cases hw
end
end Go.Ck
namespace Go.Ck
open Go.RowKit
def O2:Op→Bool
 | .call c=>(match c.callee with| .builtin _=>true|_=>false)
 |_=>true
def zj(P:Program)(all:Array Oper)(i:Nat)(s:St):Option St:=match all[i]? with
 |some o=>(match o.dst with
  |some d=>(match o.guard with
   |none=>if aat P s o.op=true then du P o s else none
   |some (j,want)=>(match ja all s j want with
    |some b=>if b=want then(if aat P s o.op=true then du P o s else none)else if O2 o.op=true then some (put d (.tup []) s)else none
    |none=>none))
  |none=>none)
 |none=>none
def takes(P:Program)(all:Array Oper):List Nat→St→Option St
 |[],s=>some s
 |i::r,s=>(match zj P all i s with
  |some s'=>takes P all r s'
  |none=>none)
def Cj(all:Array Oper):List Nat→Array Bool→Option (Array Bool)
 |[],l=>some l
 |i::r,l=>if(Region.ready .any all l).contains i&&Region.free .any all l i then Cj all r (l.setIfInBounds i true)else none
def Ed(all:Array Oper):List Nat→Array Bool→Option (Array Bool)
 |[],l=>some l
 |i::r,l=>if Region.ready .any all l=[i]then Ed all r (l.setIfInBounds i true)else none
def jg(all:Array Oper):List Nat→List Oper
 |[]=> []
 |i::r=>(match all[i]? with
  |some o=>o::jg all r
  |none=>jg all r)
section
variable {P : Program} {R : Option Nat} {Φ : Exit → Cx → St → Prop} {k : List It} {C : Cx} {s : St} {all : Array Oper}
theorem E7(hΦ:∀c C s,¬Φ (.panic c) C s):∀(k:List It) (c:List PanicEntry) (a:Act) (w:World),¬mz P R Φ k (.panic c) a w
 |[],c,a,w,h=>by obtain⟨C,s,B,h1,_⟩:=h;exact hΦ c C s h1
 |i::k,c,a,w,h=>by cases i<;>exact E7 hΦ k c a w h
theorem tl{id:Nat}(hm:P.follows .mixedOrders=true)(h:AW P R Φ .normal (.any all all.size (Array.replicate all.size false)::k) C s):AW P R Φ .normal (.code (.region id all true)::k) C s:=fun B a w ha=>
 wpIn_region_any hm (h B a _ ha.drew)
theorem a8{fuel:Nat}{listed:Array Bool}(hr:Region.ready .any all listed=[])(h:AW P R Φ .normal k C s):AW P R Φ .normal (.any all fuel listed::k) C s:=fun B a w ha=>
 wpAnyIn_done hr (h B a w ha) fuel
theorem V6{i fuel:Nat}{listed:Array Bool}{s':St}(hsel:Region.noSelect all=true)(hr:(Region.ready .any all listed).contains i=true)(hf:Region.free .any all listed i=true)(hs:zj P all i s=some s')(hΦ:∀c C s,¬Φ (.panic c) C s)
  (h:AW P none Φ .normal (.any all fuel (listed.setIfInBounds i true)::k) C s'):AW P none Φ .normal (.any all (fuel+1) listed::k) C s:=fun B a w ha=>by
 obtain⟨hd0,E,hE⟩:=ha;unfold zj at hs;split at hs
 ·rename_i o ho;split at hs
  ·rename_i d hd;have hw:(∀j want,o.guard=some (j,want)→ja all s j want=some want)→aat P s o.op=true→du P o s=some s'→mz P none Φ (.any all (fuel+1) listed::k) .normal a w:=by
    intro hg h1 h2;obtain⟨hwi,hab⟩:=anj hE hd h1 h2;obtain⟨r',x,w',E',k1,k2,k3⟩:=Ge hE h2;obtain⟨rfl,k4⟩:=hwi w r' w' k1;have hwant:Region.wanted o (yielded all a.tmps)=true:=by
     cases hgd:o.guard with
     |none=>simp[Region.wanted,hgd]
     |some g=>
      obtain⟨j,want⟩:=g;simp[Region.wanted,hgd,ny hE (hg j want hgd)]
    rcases k2 with rfl|⟨rfl,rfl⟩
    ·exact wpAnyIn_take (F:=eg none) rfl ho hsel hf hr (fun c a w hq=>absurd hq (E7 hΦ k c _ w)) ⟨.inl ⟨hwant,k4⟩,hab⟩ (h B _ _ ⟨by rw[cz];exact hd0,E',k3⟩)
    ·
     exfalso
     unfold du at h2;rw[hd]at h2;simp only at h2;split at h2
     ·unfold Nz at h2;split at h2
      ·rename_i v hv;obtain⟨y,q1,_⟩:=sm (o:=o) (d:=d) hE hv;rw[q1]at k1;cases k1
      ·cases h2
     ·unfold yi at h2;split at h2
      ·rename_i s2 hv;obtain⟨y,w2,E2,q1,_⟩:=B3 (o:=o) hE hv;rw[q1]at k1;cases k1
      ·split at h2
       ·rename_i v hv;obtain⟨y,q1,_⟩:=sm (o:=o) (d:=d) hE hv;rw[q1]at k1;cases k1
       ·cases h2
   split at hs
   ·rename_i hg;split at hs
    ·rename_i h1;exact hw (fun j want hgd=>by rw[hg]at hgd;cases hgd) h1 hs
    ·cases hs
   ·rename_i j want hg;split at hs
    ·rename_i b hb;split at hs
     ·rename_i hbw;subst hbw;split at hs
      ·rename_i h1;exact hw (fun j' want' hgd=>by rw[hg]at hgd;cases hgd;exact hb) h1 hs
      ·cases hs
     ·rename_i hbw;split at hs
      case isFalse=>cases hs
      rename_i hne;cases hs
      have hnw:Region.wanted o (yielded all a.tmps)=false:=by simp[Region.wanted,hg,ny hE hb,hbw]
      have hy:Yields P all o undef a:= .inr ⟨hnw,rfl⟩;refine wpAnyIn_first (F:=eg none) (v:=undef) (oi:=o) rfl ho (Region.noSelect_spec hsel) (fun c a w hq=>absurd hq (E7 hΦ k c _ w)) fuel listed a w (Region.free_spec ho hf) (by simpa using hr) ⟨hy,fun w=> ?_⟩ ?_
      ·unfold Oper.about;split
       ·rename_i c hc;rw[hc]at hne;simp only[O2]at hne;split at hne
        ·rename_i bb hbb;simp[resolve,hbb,Target.leads]
        ·cases hne
       ·rfl
      ·have:=h B _ w (AS.unwanted (d:=d) ⟨hd0,E,hE⟩);rw[hd];exact this
    ·cases hs
  ·cases hs
 ·cases hs
theorem AW.takes(pl:List Nat){fuel:Nat}{listed listed':Array Bool}{s':St}(h:AW P none Φ .normal (.any all fuel listed'::k) C s')(hs:Ck.takes P all pl s=some s')(hΦ:∀c C s,¬Φ (.panic c) C s)
  (hc:Cj all pl listed=some listed') (hsel:Region.noSelect all=true):AW P none Φ .normal (.any all (fuel+pl.length) listed::k) C s:=by
 induction pl generalizing listed s with
 |nil=>
  simp only[Ck.takes]at hs;simp only[Cj]at hc;cases hs;cases hc
  exact h
 |cons i r ih=>
  simp only[Ck.takes]at hs;simp only[Cj]at hc;split at hs
  ·rename_i s1 h1;split at hc
   ·rename_i hch;simp only[z01]at hch;rw[z05,←z06];exact V6 hsel hch.1 hch.2 h1 hΦ (ih hs hc)
   ·cases hc
  ·cases hs
theorem yz{o:Oper}{a:Act}{w:World}{K K':Act→World→Prop}{Q Q':Exit→Act→World→Prop}(hQ:∀e a w,e≠ .normal→Q e a w→Q' e a w)(hK:∀a w,K a w→K' a w)(h:o.wpIn (eg R) 0 P a w K Q):o.wpIn (eg R) 0 P a w K' Q':=by
 refine⟨h.1, ?_⟩;have hh:=h.2;generalize(o.semAt (eg R).round a.eval).run P w=r at*;have hend:∀(e:Ending) (w'':World),(match e with
   | .returned v=>K (a.put o.dst v) w''
   | .panicked chain=>Q (.panic chain) a w''
   | .outgrown=>LetsOut Q:Prop)→(match e with
   | .returned v=>K' (a.put o.dst v) w''
   | .panicked chain=>Q' (.panic chain) a w''
   | .outgrown=>LetsOut Q':Prop):=by
  intro e w'' he;cases e with
  |returned v=>exact hK _ _ he
  |panicked c=>exact hQ _ _ _ (by simp) he
  |outgrown=>
   obtain⟨a0,w0,hq⟩:=he;exact⟨a0,w0,hQ _ _ _ (by simp) hq⟩
 cases r with
 |ok x w'=>
  cases x<;>simp only[Oper.uponIn]at hh⊢ <;>
   first
    |exact hK _ _ hh
    |exact⟨hh.1,CallsIn.mono hh.2 (fun e w h=>by have:=hend e w;cases e<;>exact this h)⟩
    |exact⟨hh.1,RowsIn.mono hh.2 (fun _ _ he=>hK _ _ he)⟩
    |exact⟨hh.1,RoundIn.mono hh.2 (fun e w h=>by have:=hend e w;cases e<;>exact this h)⟩
 |halt x w'=>cases x<;>simp only[Oper.uponIn]at hh⊢ <;>exact hQ _ _ _ (by simp) hh
theorem aaa{fuel:Nat}{listed:Array Bool}{e:Exit}{a:Act}{w:World}(he:e≠ .normal)(h:mz P R Φ (.any all fuel listed::k) e a w):mz P R Φ k e a w:=by
 cases e<;>first|exact absurd rfl he|exact h
theorem ce{rs:List Nat}{fuel:Nat}{listed:Array Bool}(h:∀i∈rs,AW P R Φ .normal (.ops all (jg all [i]):: .any all fuel (listed.setIfInBounds i true)::k) C s)(hr:Region.ready .any all listed=rs)(hne:rs≠ []):
  AW P R Φ .normal (.any all (fuel+1) listed::k) C s:=fun B a w ha=>by
 refine wpAnyIn_all hr hne (fun i hi=> ?_)
 have:=h i hi B a w ha;have hir:i∈Region.ready .any all listed:=by rw[hr];exact hi
 obtain⟨_,o,ho,_⟩:=mem_ready.1 hir;simp only[jg,ho,mz,wpListIn]at this;unfold wpOpIn;simp only[ho];split
 ·rename_i hw;rw[if_pos hw]at this;exact yz (fun e a w he hq=>aaa he hq) (fun a w hq=>hq) this
 ·rename_i hw;rw[if_neg hw]at this;exact this
theorem aby(pl:List Nat){fuel:Nat}{listed listed':Array Bool}(hc:Ed all pl listed=some listed'):∀ {a:Act} {w:World},wpListIn (eg R) 0 P all (mz P R Φ (.any all fuel listed'::k)) (jg all pl) a w→wpAnyIn (eg R) 0 P .any all (mz P R Φ k) (fuel+pl.length) listed a w:=by
 induction pl generalizing listed with
 |nil=>
  intro a w h;simp only[Ed]at hc;cases hc
  exact h
 |cons i r ih=>
  intro a w h;simp only[Ed]at hc;split at hc
  ·rename_i hr;have hir:i∈Region.ready .any all listed:=by rw[hr];simp
   obtain⟨_,o,ho,_⟩:=mem_ready.1 hir;rw[z05,←z06];refine wpAnyIn_all hr (by simp) (fun j hj=> ?_)
   have hj:j=i:=by simpa using hj
   subst hj;simp only[jg,ho,wpListIn]at h;unfold wpOpIn;simp only[ho];split
   ·rename_i hw;rw[if_pos hw]at h;exact yz (fun e a w he hq=>aaa he hq) (fun a w hq=>ih hc hq) h
   ·rename_i hw;rw[if_neg hw]at h;exact⟨h.1,ih hc h.2⟩
  ·cases hc
theorem bp(pl:List Nat){fuel:Nat}{listed listed':Array Bool}(h:AW P R Φ .normal (.ops all (jg all pl):: .any all fuel listed'::k) C s)(hc:Ed all pl listed=some listed'):AW P R Φ .normal (.any all (fuel+pl.length) listed::k) C s:=fun B a w ha=>
 aby pl hc (h B a w ha)
end
end Go.Ck

/- What is proved here: parts of the proofs of this seat's statements (a verified evaluator for calls over pure values, its laws, and contracts of functions). No condition. -/
import Derived.Test.YtmkoabmapmehdaaGreatDoorKn
import Derived.Recover
import Derived.Defers
import Derived.Lib.ConvBytes
set_option linter.all false
open List renaming all_eq_true→z00,getElem?_map→z01,getElem?_eq_getElem→z03,getElem?_eq_some_iff→z06,mem_of_getElem?→z08,mem_cons→z09,mem_map→z10,getElem?_append_right→z11,getElem?_append_left→z12,getElem?_eq_none→z13
open Array renaming replicate→z02,getElem?_eq_getElem→z05
open Bool renaming and_eq_true→z04,or_eq_true→z15
open Option renaming map_eq_some_iff→z07,map_some→z14
namespace Go.Ck
open Go.RowKit
mutual
def PV.solid:PV→Bool
 | .sl _ _=>false
 | .agg cs=>Oa cs
 | .iface _ v=>v.solid
 |_=>true
def Oa:List PV→Bool
 |[]=>true
 |p::r=>p.solid&&Oa r
end
theorem Jp:∀ {l:List PV},Oa l=true→∀p∈l,p.solid=true
 |[],_,_,h=>by cases h
 |q::r,hl,p,h=>by
  simp only[Oa,z04]at hl;rcases z09.1 h with rfl|h
  ·exact hl.1
  ·exact Jp hl.2 p h
theorem RO.solid{A A':Nat→Prop}{w w':World}{p:PV}{x:Value}(hr:RO A w p x)(hc:p.solid=true):RO A' w' p x:=by
 induction hr with
 |int k n=>exact .int k n
 |bool b=>exact .bool b
 |str s=>exact .str s
 |sl z xs vs a cap hl h1 hr hm hz hb hcap ih=>simp[PV.solid]at hc
 |agg cs vs hl h1 hr ih=>
  simp only[PV.solid]at hc;exact .agg cs vs hl h1 (fun i c v hi hv=>ih i c v hi hv (Jp hc c (z08 hi)))
 |iface t v x h ih=>simp only[PV.solid]at hc;exact .iface t v x (ih hc)
 |nili=>exact .nili
 |nilp=>exact .nilp
 |nilf=>exact .nilf
def Pan(ch:List PanicEntry)(p:PV):Prop:=∃x,ch=[{ v:=x,recovered:=false }]∧p.solid=true∧∃A w,RO A w p x
section
variable {P : Program} {O0 : Base} {F : Nat → Prop} {w0 w : World} {s : St} {E : Env} {a : Act}
theorem Nh(h:Rel P O0 w0 F s E a.tmps w)(hG:Gj P (fun b=>E.om b∨F b) w){ρ:Nat→Nat}{H:List (Nat×HO)}{svs args:List SV}{L:List Place}{m:Option Place}{vals:List Value}
  (hl:vals.length=svs.length) (hv:∀(i:Nat) (v:SV) (x:Value),svs[i]?=some v→vals[i]?=some x→RS P (fun b=>E.om b∨F b) E w v x) (hp:Pass P s ρ svs args L m) (hok:CallOK s ρ H args L m):
  ∃(F':Nat→Prop) (E0:Env),Gj P (fun b=>E0.om b∨F' b) w∧Rel P ⟨E0.om,d9 E0 H⟩ w F' ⟨vals.length,c8 args 0,H⟩ E0 vals.toArray w∧vals.length=args.length∧
   ∀(rs:List SV) (H':List (Nat×HO)) (E':Env) (us:List Value) (w':World),us.length=rs.length→Rel P ⟨E0.om,d9 E0 H⟩ w F' ⟨us.length,c8 rs 0,H'⟩ E' us.toArray w'→
    (bk H').Nodup→(∀o∈bk H',∀o'∈bk H',ρ o=ρ o'→o=o')→(∀o∈bk H',aj o H=none→aj (ρ o) s.hp=none)→(L=[]∨(rs.all SV.clo=true∧H'.all (fun y=>y.2.clo)=true))→
    (∃E1,Rel P O0 w0 F ⟨s.n,(b6 s ρ m H).sl,o9 ρ H' (b6 s ρ m H).hp⟩ E1 a.tmps w')∧
    (rs.all yc=true→∀d,∃E2,Rel P O0 w0 F (lh ρ d rs ⟨s.n,(b6 s ρ m H).sl,o9 ρ H' (b6 s ρ m H).hp⟩) E2 (a.tmps.setIfInBounds d (ve us)) w'):=by
 let Lt:Nat→Prop:=fun b=> ∃p∈L,Y4 s E p b
 have haf:=Pv h (Lt:=Lt) hp hl hv (fun p hp' b hb=>⟨p,hp',hb⟩)
 obtain⟨f1,f2,f3,f4⟩:=haf.facts;have hpown:∀p,m=some p→∃e xs,s.at p=some (.own e xs):=by
  intro p hm;subst hm;have key:∀ {svs args L m},Pass P s ρ svs args L m→∀p,m=some p→∃e xs,s.at p=some (.own e xs):=by
   intro svs args L m hp
   induction hp with
   |nil=>simp
   |move hp _ _=>intro p h1;cases h1;exact⟨_,_,hp⟩
   |pv _ _ ih=>exact ih
   |nilsP _ _ ih=>exact ih
   |nilsO _ _ ih=>exact ih
   |nils _ ih=>exact ih
   |lend _ _ _ ih=>exact ih
   |lendV _ _ _ _ ih=>exact ih
   |lendO _ _ _ _ _ _ ih=>exact ih
   |ptr _ _ ih=>exact ih
   |mp _ _ ih=>exact ih
   |os _ _ ih=>exact ih
   |fn _ _ ih=>exact ih
   |agg _ _ ih=>exact ih
  exact key hp p rfl
 have hgive:Rel P O0 w0 F (iz m s) E a.tmps w∧(∀p e xs,(iz m s).at p=some (.own e xs)→s.at p=some (.own e xs)∧m≠some p)∧(∀q y,aj q (iz m s).hp=some y→∃y',aj q s.hp=some y')∧
   (∀q,(∀p i,m=some p→p≠ .cell q i)→aj q (iz m s).hp=aj q s.hp)∧(iz m s).n=s.n:=by
  cases m with
  |none=>exact⟨h,fun p e xs h1=>⟨h1,by simp⟩,fun q y hy=>⟨y,hy⟩,fun q _=>rfl,rfl⟩
  |some p=>
   obtain⟨e,xs,hpo⟩:=hpown p rfl;obtain⟨_,_,_,h4⟩:=h.take hpo;refine⟨h4,fun q e' ys hq=> ?_,fun q y hy=>Pl hy,fun q hq=>Vt (fun i=>hq p i rfl), ?_⟩
   ·obtain⟨h5,h6⟩:=Pk (e:=e) (xs:=xs) hpo rfl hq ⟨_,nq p s hpo,rfl⟩;exact⟨h6,by simpa using fun h7=>h5 h7.symm⟩
   ·show(xy p s).n=s.n
    unfold xy;rw[vt];rfl
 obtain⟨g1,g2,g3,g4,g5⟩:=hgive;obtain⟨k1,k2,k3,k4,k4',k5⟩:=rc ((bk H).map ρ) g1;have hs1:b6 s ρ m H=mu ((bk H).map ρ) (iz m s):=rfl;have hH1:∀o y,aj o H=some y→aj (ρ o) (b6 s ρ m H).hp=some (y.ren ρ):=by
  intro o y hy;rw[hs1,k2,g4 (ρ o) (fun p i hm=>hok.moved p hm o y i hy)]
  exact hok.hH o y hy
 have hown1:∀p e xs,(b6 s ρ m H).at p=some (.own e xs)→s.at p=some (.own e xs)∧m≠some p:=fun p e xs hp'=>g2 p e xs (k4 p e xs hp')
 have hmv:∀ {i:Nat} {e:TypeId} {xs:List PV} {x:Value},args[i]?=some (SV.own e xs)→vals[i]?=some x→(xs=[]∧x= .slice none 0 0)∨∃p,m=some p∧s.at p=some (.own e xs)∧x=E.hdr p:=by
  intro i e xs x hi hx;rcases f2 i _ x hi hx with⟨e',h1,h2⟩|⟨e',ys,p,h1,h2,h3,h4⟩|⟨h1,_⟩
  ·cases h1;exact .inl ⟨rfl,h2⟩
  ·cases h1;exact .inr ⟨p,h2,h3,h4⟩
  ·simp[SV.easy]at h1
 have ha:Args P (fun b=>E.om b∨F b) (b6 s ρ m H) E ρ H Lt w args vals:=by
  refine⟨f1,fun i e xs x hi hx=> ?_,fun i c x hi hx=> ?_,fun i c o hi ho=>hok.pts c (z08 hi) o ho,fun i j e xs e' ys x y b hi hj hx hy hb hb'=>f4 i j e xs e' ys x y b b hi hj hx hy hb hb'⟩
  ·rcases hmv hi hx with⟨rfl,rfl⟩|⟨p,hm,hpo,rfl⟩
   ·exact⟨⟨[],World.ownsRow_nil w 0 _ _,iu.nil _ _,by simp,by simp⟩,by simp[Value.ownBlock]⟩
   ·obtain⟨_,t2,t3,_⟩:=h.take hpo;refine⟨t2,fun b hb=>⟨(t3 b hb).1,⟨fun o y hy=> ?_,fun q e' ys hq hqb=> ?_⟩⟩⟩
    ·rw[hs1,k2]at hy;obtain⟨y',hy'⟩:=g3 o y hy;exact h.i3 p e xs o y' b hpo hy' hb
    ·obtain⟨h5,h6⟩:=hown1 q e' ys hq;have:=h.i2 q p e' ys e xs b h5 hpo hqb hb;subst this;exact h6 hm
  ·rcases f2 i c x hi hx with⟨e',h1,h2⟩|⟨e',ys,p,h1,h2,h3,h4⟩|⟨h1,h2,h3⟩
   ·exact .inl ⟨_,_,h1⟩
   ·exact .inl ⟨_,_,h1⟩
   ·exact .inr ⟨h1,h2,h3 _ (fun _=>rfl)⟩
 have hLown:∀p∈L,(∃e xs,s.at p=some (.own e xs))∨∃o i y,p= .part o i∧aj o s.hp=some y:=by
  have key:∀ {svs args L m},Pass P s ρ svs args L m→∀p∈L,(∃e xs,s.at p=some (.own e xs))∨∃o i y,p= .part o i∧aj o s.hp=some y:=by
   intro svs args L m hp
   induction hp with
   |nil=>simp
   |lend hp _ _ ih=>exact fun q hq=>(z09.1 hq).elim (fun h1=>h1▸ .inl ⟨_,_,hp⟩) (ih q)
   |lendV hp _ _ _ ih=>exact fun q hq=>(z09.1 hq).elim (fun h1=>h1▸ .inl ⟨_,_,hp⟩) (ih q)
   |lendO hp _ _ _ _ _ ih=>exact fun q hq=>(z09.1 hq).elim (fun h1=>h1▸ .inr ⟨_,_,_,rfl,hp⟩) (ih q)
   |move _ _ ih=>exact ih
   |pv _ _ ih=>exact ih
   |nilsP _ _ ih=>exact ih
   |nilsO _ _ ih=>exact ih
   |nils _ ih=>exact ih
   |ptr _ _ ih=>exact ih
   |mp _ _ ih=>exact ih
   |os _ _ ih=>exact ih
   |fn _ _ ih=>exact ih
   |agg _ _ ih=>exact ih
  exact key hp
 have hLtom:∀b,Lt b→E.om b:=by
  rintro b ⟨p,hpL,⟨hb,e,xs,hpo⟩|⟨o,i,y,rfl,hy,rfl⟩⟩
  ·obtain⟨_,_,_,_,h4⟩:=h.place p _ hpo;exact h4 b hb
  ·exact(h.obj o y hy).1
 have hLt:∀b,Lt b→¬xz E ρ H args vals b:=by
  rintro b ⟨p,hpL,hb⟩ hc;obtain⟨hl1,hl2⟩:=hok.lent p hpL;rcases hb with⟨hb,e,xs,hpo⟩|⟨o0,i0,y0,rfl,hy0,rfl⟩
  ·rcases hc with⟨o,y,h1,h2⟩|⟨o,y,i,e',ys,h1,h2,h3⟩|⟨i,e',ys,x,h1,h2,h3⟩
   ·exact h.i3 p e xs _ _ b hpo (hok.hH o y h1) hb h2
   ·have hat:s.at (.cell (ρ o) i)=some (.own e' ys):=by
     rw[cv,hok.hH o y h1];simp only[gn,z01,h2,z14];rfl
    exact(hl2 o y i h1).1 (h.i2 _ _ _ _ _ _ b hpo hat hb h3)
   ·rcases hmv h1 h2 with⟨rfl,rfl⟩|⟨q,hm,hqo,rfl⟩
    ·simp[Value.ownBlock]at h3
    ·have:=h.i2 _ _ _ _ _ _ b hpo hqo hb h3;subst this;exact hl1 hm
  ·rcases hc with⟨o,y,h1,h2⟩|⟨o,y,i,e',ys,h1,h2,h3⟩|⟨i,e',ys,x,h1,h2,h3⟩
   ·have:=h.i1 _ _ _ _ hy0 (hok.hH o y h1) h2.symm;subst this;exact(hl2 o y i0 h1).2 rfl
   ·have hat:s.at (.cell (ρ o) i)=some (.own e' ys):=by
     rw[cv,hok.hH o y h1];simp only[gn,z01,h2,z14];rfl
    exact h.i3 _ _ _ _ _ _ hat hy0 h3 rfl
   ·rcases hmv h1 h2 with⟨rfl,rfl⟩|⟨q,hm,hqo,rfl⟩
    ·simp[Value.ownBlock]at h3
    ·exact h.i3 _ _ _ _ _ _ hqo hy0 h3 rfl
 have hent:=Ln k1 (ρ:=ρ) (H:=H) (Lt:=Lt) (args:=args) (vals:=vals) hH1 hok.inj hok.hp hLt ha;have hGc:Gj P (fun b=>xz E ρ H args vals b∨((E.om b∨F b)∧¬xz E ρ H args vals b∧¬Lt b)) w:=hG.mono (fun b _ hn=>⟨fun hc=>hn (hc.elim (fun h1=> .inl (yn k1 ha hH1 h1)) (fun h1=>h1.1)),rfl⟩) (Nat.le_refl _)
 refine⟨_,_,hGc,hent,f1,fun rs H' E' us w' hul hR q2 q3 q4 q5=> ?_⟩
 have hmem:∀ {o:Nat} {y:HO} {G:List (Nat×HO)},aj o G=some y→o∈bk G:=fun hy=>z10.2 ⟨_,ib hy,rfl⟩
 have hinj':∀o o' y y',aj o H'=some y→aj o' H'=some y'→ρ o=ρ o'→o=o':=fun o o' y y' hy hy' he=>q3 o (hmem hy) o' (hmem hy') he
 have hnone:∀q,aj q s.hp=none→aj q (b6 s ρ m H).hp=none:=by
  intro q hq;cases hc:aj q (b6 s ρ m H).hp with
  |none=>rfl
  |some y=>
   rw[hs1,k2]at hc;obtain⟨y',hy'⟩:=g3 q y hc;rw[hq]at hy';cases hy'
 obtain⟨r1,r2⟩:=aq8 k1 (ρ:=ρ) (H:=H) (H':=H') (Lt:=Lt) (args:=args) (rs:=rs) (vals:=vals) (us:=us) hH1 hLtom ha hinj'
  (fun o y hy hn=>hnone _ (q4 o (hmem hy) hn))
  (fun p v q hpv hq o y i hy he=>by
   cases hl:aj o H with
   |some z=>exact k5 p v q hpv hq (ρ o) (z10.2 ⟨o,hmem hl,rfl⟩) i he
   |none=>
    obtain⟨_,⟨e,xs,h7⟩,_⟩:=k1.na p v q hpv hq;subst he;rw[cv]at h7;have h8:=hnone _ (q4 o (hmem hy) hl);rw[hs1]at h8;rw[h8]at h7;cases h7)
  hR (q5.imp (fun hL b ⟨p,hpL,_⟩=>by rw[hL]at hpL;cases hpL) (fun hc=>⟨fun r hr=>z00.1 hc.1 r hr,fun o y hy=>(by have:=z00.1 hc.2 (o,y) (ib hy);exact this)⟩))
  (hp:=o9 ρ H' (b6 s ρ m H).hp) (fun o y hy=>Is ρ H' _ o y q2 q3 hy) (fun q hq=>zt ρ H' _ q (fun o ho he=>by
   obtain⟨y,hy⟩:=ow ho;exact hq o y hy he))
 have hn1:(mu ((bk H).map ρ) (iz m s)).n=s.n:=by rw[k3,g5]
 rw[hn1]at r1 r2;refine⟨⟨_,r1⟩,fun q1 d=> ?_⟩
 obtain⟨E2,hE2⟩:=mn r1 (ρ:=ρ) d hul q1 r2;exact⟨E2,hE2⟩
end
def Kt(P:Program)(f:FuncId)(H:List (Nat×HO))(args:List SV)(Ψ:List SV→List (Nat×HO)→Prop)(Υ:PV→List (Nat×HO)→Prop):Prop:=
 (∃fn,P.funcs[f]?=some fn∧(fn.name== "runtime.NumGoroutine")=false∧fn.body.isNone=false)∧∀(F:Nat→Prop) (w:World) (E:Env) (vals:List Value),vals.length=args.length→Gj P (fun b=>E.om b∨F b) w→Rel P ⟨E.om,d9 E H⟩ w F ⟨vals.length,c8 args 0,H⟩ E vals.toArray w→
  Calls P f vals.toArray w (fun
   | .returned v,w'=> ∃rs H' E' us,Ψ rs H'∧us.length=rs.length∧v=ve us∧Rel P ⟨E.om,d9 E H⟩ w F ⟨us.length,c8 rs 0,H'⟩ E' us.toArray w'
   | .panicked ch,w'=> ∃p H' E',Υ p H'∧Pan ch p∧Rel P ⟨E.om,d9 E H⟩ w F ⟨0,[],H'⟩ E' #[] w'
   | .outgrown,_=>False)
section
variable {P : Program} {R : Option Nat} {Φ : Exit → Cx → St → Prop} {k : List It} {C : Cx} {s : St}
theorem Vy{ch:List PanicEntry}:∀ {k:List It},AW P R Φ (.panic ch) [] C s→AW P R Φ (.panic ch) k C s
 |[],h=>h
 |x::k,h=>fun B a w ha=>by
  have:=Vy (k:=k) h B a w ha;cases x<;>exact this
theorem AW.callP{all:Array Oper}{o:Oper}{r:List Oper}{c:Call}{fx:Operand}{f:FuncId}{caps svs:List SV}{ρ:Nat→Nat}{H:List (Nat×HO)}{args:List SV}{L:List Place}{m:Option Place}{Ψ:List SV→List (Nat×HO)→Prop}{Υ:PV→List (Nat×HO)→Prop}{d:Nat}
  (hg:o.guard=none) (ho:o.op= .call c) (hd:o.dst=some d) (hc:c.callee= .value fx) (hf:ev s fx=some (.fn f caps)) (hx:evs s c.args.toList=some svs)
  (hp:Pass P s ρ (svs++caps) args L m) (hok:CallOK s ρ H args L m) (hF:Kt P f H args Ψ Υ)
  (hk:∀rs H',Ψ rs H'→rs.all yc=true∧(bk H').Nodup∧(∀o∈bk H',∀o'∈bk H',ρ o=ρ o'→o=o')∧(∀o∈bk H',aj o H=none→aj (ρ o) s.hp=none)∧(L=[]∨(rs.all SV.clo=true∧H'.all (fun y=>y.2.clo)=true))∧
   AW P R Φ .normal (.ops all r::k) C (lh ρ d rs ⟨s.n,(b6 s ρ m H).sl,o9 ρ H' (b6 s ρ m H).hp⟩))
  (hq:∀p H',Υ p H'→(bk H').Nodup∧(∀o∈bk H',∀o'∈bk H',ρ o=ρ o'→o=o')∧(∀o∈bk H',aj o H=none→aj (ρ o) s.hp=none)∧(L=[]∨H'.all (fun y=>y.2.clo)=true)∧
   ∀ch,Pan ch p→AW P R Φ (.panic ch) [] C ⟨s.n,(b6 s ρ m H).sl,o9 ρ H' (b6 s ρ m H).hp⟩):
  AW P R Φ .normal (.ops all (o::r)::k) C s:=fun B a w ha=>by
 simp only[mz];refine cb (by simp[Region.wanted,hg]) (fun c' hc'=>by rw[ho]at hc';cases hc') ?_
 obtain⟨fn,hfn,hname,hbody⟩:=hF.1;obtain⟨hdf,E,h⟩:=ha;obtain⟨cvs,e1,e2,e3⟩:=(cq h hf).fn_inv;obtain⟨h1,h2⟩:=lf h hx;have hrun:(execOp a.eval o).run P w= .ok (.enter f (c.args.toList.map a.eval++cvs).toArray) w:=by
  have hargs:c.args.map a.eval++cvs.toArray=(c.args.toList.map a.eval++cvs).toArray:=by apply Array.ext';simp
  have hbody':∃b,fn.body=some b:=by cases hb:fn.body with|none=>simp[hb]at hbody|some b=>exact⟨b,rfl⟩
  obtain⟨b,hb⟩:=hbody';have hname':¬fn.name= "runtime.NumGoroutine" :=by simpa using hname
  simp[execOp,ho,resolve,hc,e1,Deferred.ofValue,invoke,callFunc,hfn,hname',hb,hargs]
 rw[hrun,Oper.uponIn_enter];refine⟨fun h=>by simp[eg,Fence.wide]at h,kd ?_⟩
 obtain⟨F',E0,hGc,hent,f1,hback⟩:=Nh h (v8 hdf.2.2 h) (ρ:=ρ) (H:=H) (svs:=svs++caps) (args:=args) (L:=L) (m:=m) (vals:=c.args.toList.map a.eval++cvs) (by simp[e2,h1]) (fun i v x hi hxi=>by
   by_cases hlt:i<svs.length
   ·rw[z12 hlt]at hi;rw[z12 (by simp[←h1];exact hlt),z01,z07]at hxi
    obtain⟨x0,hx0,rfl⟩:=hxi;exact cq h (h2 i x0 v hx0 hi)
   ·rw[z11 (by omega)]at hi
    rw[z11 (by simp[←h1];omega)]at hxi
    have:i-(c.args.toList.map a.eval).length=i-svs.length:=by simp[←h1]
    rw[this]at hxi;exact e3 _ v x hi hxi) hp hok
 refine(hF.2 F' w E0 _ f1 hGc hent).mono (fun e w' he=> ?_)
 cases e with
 |outgrown=>exact he.elim
 |panicked ch=>
  obtain⟨p,H',E',hU,hpan,hR⟩:=he;obtain⟨q2,q3,q4,q5,q6⟩:=hq p H' hU;obtain⟨⟨E1,h1⟩,_⟩:=hback [] H' E' [] w' rfl hR q2 q3 q4 (q5.imp id fun h=>⟨rfl,h⟩)
  exact Vy (k:=k) (q6 ch hpan) B a w' ⟨hdf,E1,h1⟩
 |returned v=>
  obtain⟨rs,H',E',us,hΨ,hul,rfl,hR⟩:=he;obtain⟨q1,q2,q3,q4,q5,q6⟩:=hk rs H' hΨ;obtain⟨E2,hE2⟩:=(hback rs H' E' us w' hul hR q2 q3 q4 q5).2 q1 d;refine q6 B _ w' ⟨by rw[cz];exact hdf,E2, ?_⟩
  rw[hd];exact hE2
def Hg(s:St)(ρ:Nat→Nat)(H:List (Nat×HO))(L:List Place)(H':List (Nat×HO)):Bool:=
 yj ((bk H').map ρ)&&Ba s ρ H H'&& (ar1 L||H'.all (fun y=>y.2.clo))
def mj(s:St)(ρ:Nat→Nat)(m:Option Place)(H:List (Nat×HO))(H':List (Nat×HO)):St:=
 ⟨s.n,(b6 s ρ m H).sl,o9 ρ H' (b6 s ρ m H).hp⟩
theorem aez{all:Array Oper}{o:Oper}{r:List Oper}{f:FuncId}{svs:List SV}{H:List (Nat×HO)}{args:List SV}{L:List Place}{m:Option Place}{Ψ:List SV→List (Nat×HO)→Prop}{Υ:PV→List (Nat×HO)→Prop}{d:Nat}(ρ:Nat→Nat)
  (hg:o.guard=none) (hd:o.dst=some d) (hc:callOp s o.op=some (f,svs)) (hF:Kt P f H args Ψ Υ) (hP:Pass P s ρ svs args L m) (hM:HM s ρ H) (hB:Hc ρ H args L m=true)
  (hk:∀rs H',Ψ rs H'→okA s ρ H L rs H'=true∧AW P R Φ .normal (.ops all r::k) C (sf s ρ m H d rs H'))
  (hq:∀p H',Υ p H'→Hg s ρ H L H'=true∧∀ch,Pan ch p→AW P R Φ (.panic ch) [] C (mj s ρ m H H')):
  AW P R Φ .normal (.ops all (o::r)::k) C s:=by
 cases ho:o.op with
 |call c=>
  rw[ho]at hc;simp only[callOp]at hc;split at hc
  ·rename_i fx hcal;unfold Q6 at hc;split at hc
   ·rename_i g caps hfx;split at hc
    ·rename_i vs hvs;cases hc
     refine AW.callP hg ho hd hcal hfx hvs hP (.ofB hM hB) hF (fun rs H' hΨ=> ?_) (fun p H' hU=> ?_)
     ·obtain⟨h1,h2⟩:=hk rs H' hΨ;simp only[okA,z04,z15]at h1;obtain⟨⟨⟨a1,a2⟩,a3⟩,a4⟩:=h1;obtain⟨b1,b2⟩:=ko a2;refine⟨a1,b1,b2,kw a3,a4.imp (fun h=> ?_) (fun h=>h),h2⟩
      cases L with
      |nil=>rfl
      |cons p r=>cases h
     ·obtain⟨h1,h2⟩:=hq p H' hU;simp only[Hg,z04,z15]at h1;obtain⟨⟨a2,a3⟩,a4⟩:=h1;obtain⟨b1,b2⟩:=ko a2;refine⟨b1,b2,kw a3,a4.imp (fun h=> ?_) (fun h=>h),h2⟩
      cases L with
      |nil=>rfl
      |cons p r=>cases h
    ·cases hc
   ·cases hc
  ·cases hc
 |_=>rw[ho]at hc;simp[callOp]at hc
theorem cd{all:Array Oper}{o:Oper}{r:List Oper}{f:FuncId}{svs:List SV}{H H' H'':List (Nat×HO)}{args rs:List SV}{L:List Place}{m:Option Place}{d:Nat}{s' s'':St}{c1 c2:Prop}{p:PV}(ρ:Nat→Nat)
 (hF:Kt P f H args (fun rs' h=>c1∧rs'=rs∧h=H') (fun p' h=>c2∧p'=p∧h=H'')) (hP:Pass P s ρ svs args L m) (h2:c2→∀ch,Pan ch p→AW P R Φ (.panic ch) [] C s'') (h:c1→AW P R Φ .normal (.ops all r::k) C s') (hg:o.guard=none:=by rfl) (hd:o.dst=some d:=by rfl) (hc:callOp s o.op=some (f,svs):=by simp only[go_sem,↓reduceIte]<;>rfl) (hM:HM s ρ H:=by simp only[go_sem,↓reduceIte]) (hB:Hc ρ H args L m=true:=by simp only[go_sem,↓reduceIte])
 (hA:okA s ρ H L rs H'=true:=by simp only[go_sem,↓reduceIte]) (hs:sf s ρ m H d rs H'=s':=by simp only[go_sem,↓reduceIte]<;>rfl) (hA':Hg s ρ H L H''=true:=by simp only[go_sem,↓reduceIte,Hg]) (hs':mj s ρ m H H''=s'':=by simp only[go_sem,↓reduceIte,mj]<;>rfl):
 AW P R Φ .normal (.ops all (o::r)::k) C s:=aez ρ hg hd hc hF hP hM hB (fun rs' h' ⟨hc1,e1,e2⟩=>by subst e1;subst e2;exact⟨hA,by rw[hs];exact h hc1⟩) (fun p' h' ⟨hc2,e1,e2⟩=>by subst e1;subst e2;exact⟨hA',by rw[hs'];exact h2 hc2⟩)
theorem aev{all:Array Oper}{o:Oper}{r:List Oper}{x:Operand}{t:TypeId}{p:PV}(h:∀ch,Pan ch (.iface t p)→AW P R Φ (.panic ch) [] C s)(hg:o.guard=none:=by rfl)(ho:o.op= .panic x:=by rfl)(hx:ev s x=some (.pv (.iface t p)):=by simp only[go_sem,↓reduceIte]<;>rfl)(hs:p.solid=true:=by rfl):
  AW P R Φ .normal (.ops all (o::r)::k) C s:=fun B a w ha=>by
 simp only[mz];refine cb (by simp[Region.wanted,hg]) (fun c' hc'=>by rw[ho]at hc';cases hc') ?_
 obtain⟨hd,E,hE⟩:=ha;have h1:=lu hE hx;generalize hxe:a.eval x=y at h1;cases h1 with|iface _ _ z hz=> ?_
 have hrun:(execOp a.eval o).run P w= .halt (.panic (.iface t z)) w:=by simp[execOp,ho,hxe,Instr.panic,goPanic]
 rw[hrun,Oper.uponIn_panic];exact Vy (h _ ⟨_,rfl,by simpa only[PV.solid]using hs,_,_,.iface t p z hz⟩) B a w ⟨hd,E,hE⟩
end
section
variable {P : Program} {F : Nat → Prop} {w w' : World} {E E' : Env} {s' : St} {a : Act} {H H' : List (Nat × HO)}
theorem Dj(hE:Rel P ⟨E.om,d9 E H⟩ w F s' E' a.tmps w'){svs rs:List SV}{us:List Value}{L:List Place}{m:Option Place}(k2:us.length=svs.length)(k3:∀(i:Nat) (v:SV) (x:Value),svs[i]?=some v→us[i]?=some x→RS P (fun b=>E'.om b∨F b) E' w' v x)(h2:Pass P s' id svs rs L m)(h3:CallOK s' id H' rs L m)(h4:∀o y,aj o H=some y→∃z,aj o H'=some z):
  us.length=rs.length∧∃E'',Rel P ⟨E.om,d9 E H⟩ w F ⟨us.length,c8 rs 0,H'⟩ E'' us.toArray w':=by
 obtain⟨Lt,p1,p2,p3,p4,p5⟩:=arz hE k2 k3 h2 h3;have hent:=Ln p4 (ρ:=id) (H:=H') (Lt:=Lt) (args:=rs) (vals:=us) p5 h3.inj h3.hp p2 p3;have hom:∀b,xz E' id H' rs us b→E'.om b:=fun b hb=>yn p4 p3 p5 hb
 have hfin:=hent.rebase (O0:=⟨E.om,d9 E H⟩) (w0:=w) (F:=F) (fun b hb=>⟨.inr hb,fun hc=>(hE.om_lt b (hom b hc)).2 hb,fun hc=>(hE.om_lt b (p1 b hc)).2 hb⟩) (fun b hb=>hE.om0 b (hom b hb)) hE.gr hE.flt (fun o b hb=>by
  obtain⟨q1,_⟩:=hE.ob o b hb;refine⟨q1, ?_⟩;simp only[d9]at hb;split at hb
  ·rename_i y hy;exact h4 o y hy
  ·cases hb)
 exact⟨p3.len,_,hfin⟩
end
def afr(P:Program)(res:List ResultVar)(H:List (Nat×HO))(Ψ:List SV→List (Nat×HO)→Prop)(Υ:PV→List (Nat×HO)→Prop)(C:Cx)(e:Exit)(C':Cx)(s':St):Prop:=
 rq P res H Ψ C e C' s'∨(C'=C∧∃p ch H',e= .panic ch∧Pan ch p∧CallOK s' id H' [] [] none∧(∀o y,aj o H=some y→∃z,aj o H'=some z)∧Υ p H')
theorem Kt.of_body{P:Program}{f:FuncId}{fn:Func}{c:Code}{H:List (Nat×HO)}{args:List SV}{Ψ:List SV→List (Nat×HO)→Prop}{Υ:PV→List (Nat×HO)→Prop}{n:Nat}{res:List ResultVar}(hf:P.funcs[f]?=some fn)(hb:fn.body=some c)(hn:n=args.length+(fn.ntmps-args.length))(hres:fn.results.toList=res)(hname:(fn.name== "runtime.NumGoroutine")=false)(hH:H.all (fun y=>decide (1000≤y.1))=true)
  (h:∀C,AW P none (afr P res H Ψ Υ C) .normal [.code c] C ⟨n,c8 args 0,H⟩):Kt P f H args Ψ Υ:=⟨⟨fn,hf,hname,by simp[hb]⟩,fun F w E vals hl hG hR=>by
 subst hres;refine calls_of_wp hf hb ?_;have h0:=hR.extend (u:=z02 (fn.ntmps-vals.toArray.size) undef) (n:=n) (by simp[hn,hl])
 let B0:Bs:=⟨⟨E.om,d9 E H⟩,w,F⟩
 have hw:=h (fun B d=>B=B0∧d=[]) B0 { tmps:=vals.toArray++z02 (fn.ntmps-vals.toArray.size) undef,defers:=[] } w ⟨⟨⟨rfl,rfl⟩,(fun o ho=>by
  show d9 E H o=none
  unfold d9;split
  ·rename_i y hy;have:=z00.1 hH _ (ib hy);simp at this;simp only[lim]at ho;omega
  ·rfl),hG⟩,E,h0⟩
 simp only[mz]at hw;refine wp_mono ((wpIn_wide (n:=0)).1 hw) (fun e a w' hq=> ?_)
 obtain⟨C',s',B,hend,⟨⟨hC,_⟩,E',hE⟩⟩:=hq;rcases hend with⟨rfl,he,svs,rs,H',L,m,h1,h2,h3,h4,h5⟩|⟨rfl,p,ch,H',rfl,hpan,h3,h4,h5⟩
 ·obtain⟨rfl,hd⟩:=hC;obtain⟨us,k1,k2,k3⟩:=h1.sound hE;obtain⟨q1,E'',q2⟩:=Dj hE k2 k3 h2 h3 h4;have hfin':a.defers=[]∧∃v,(results fn a.tmps).run P w'= .ok v w'∧∃rs H' E' us,Ψ rs H'∧us.length=rs.length∧v=ve us∧Rel P ⟨E.om,d9 E H⟩ w F ⟨us.length,c8 rs 0,H'⟩ E' us.toArray w':=
   ⟨hd,ve us,ku k1,rs,H',_,us,h5,q1,rfl,q2⟩
  rcases he with rfl|rfl
  ·exact hfin'
  ·exact hfin'
 ·obtain⟨rfl,hd⟩:=hC;obtain⟨q1,E'',q2⟩:=Dj hE (svs:=[]) (us:=[]) rfl (by simp) .nil h3 h4
  exact⟨hd,p,H',E'',h5,hpan,q2⟩⟩
section
variable {P : Program} {R : Option Nat} {C : Cx} {s : St}
theorem tj{res:List ResultVar}{H H':List (Nat×HO)}{Ψ:List SV→List (Nat×HO)→Prop}{Υ:PV→List (Nat×HO)→Prop}{e:Exit}{svs rs:List SV}{L:List Place}{m:Option Place}(hP:Pass P s id svs rs L m)(hΨ:Ψ rs H')(he:e= .normal∨e= .ret:=by first|exact .inl rfl|exact .inr rfl)(hv:ud P s res=some svs:=by simp only[go_sem,↓reduceIte]<;>rfl)(hM:HM s id H':=by simp only[go_sem,↓reduceIte];try trivial)(hB:Hc id H' rs L m=true:=by simp only[go_sem,↓reduceIte])
  (hn:Fu H H'=true:=by simp only[go_sem,↓reduceIte]):AW P R (afr P res H Ψ Υ C) e [] C s:=
 AW.nil (.inl ⟨rfl,he,svs,rs,H',L,m,mv hv,hP,.ofB hM hB,(fun o y hy=>by
  have:=z00.1 hn (o,y) (ib hy);simp only at this;split at this
  ·rename_i z hz;exact⟨z,hz⟩
  ·cases this),hΨ⟩)
theorem jx{res:List ResultVar}{H H':List (Nat×HO)}{Ψ:List SV→List (Nat×HO)→Prop}{Υ:PV→List (Nat×HO)→Prop}{ch:List PanicEntry}{p:PV}(hpan:Pan ch p)(hU:Υ p H')(hM:HM s id H':=by simp only[go_sem,↓reduceIte];try trivial)(hB:Hc id H' [] [] none=true:=by simp only[go_sem,↓reduceIte])
  (hn:Fu H H'=true:=by simp only[go_sem,↓reduceIte]):AW P R (afr P res H Ψ Υ C) (.panic ch) [] C s:=
 AW.nil (.inr ⟨rfl,p,ch,H',rfl,hpan,.ofB hM hB,(fun o y hy=>by
  have:=z00.1 hn (o,y) (ib hy);simp only at this;split at this
  ·rename_i z hz;exact⟨z,hz⟩
  ·cases this),hU⟩)
end
end Go.Ck
namespace Go.Ck
open Go.RowKit
def Ext(B0 B:Bs):Prop:=B.w=B0.w∧B.F=B0.F∧B.O.blk=B0.O.blk∧∀o b,B0.O.ob o=some b→B.O.ob o=some b
def aaw(b:Nat):Value:= .pointer (some ⟨b,0,none⟩)
def tv(os:List Nat):List SV:=os.map fun o=> .ptr o 0
def DCx(C:Cx)(f:FuncId)(os:List Nat):Cx:=fun B ds=> ∃(B0:Bs) (ds0:List Deferred) (bs:List Nat),C B0 ds0∧Ext B0 B∧bs.length=os.length∧(∀(i o b:Nat),os[i]?=some o→bs[i]?=some b→B.O.ob o=some b)∧ds=⟨.fn (.func f) (bs.map aaw).toArray, #[]⟩::ds0
section
variable {P : Program} {O0 : Base} {F : Nat → Prop} {w0 w : World} {s : St} {E : Env} {tmps : Array Value}
theorem Rel.pin(h:Rel P O0 w0 F s E tmps w)(os:List Nat)(hos:∀o∈os,∃y,aj o s.hp=some y):Rel P ⟨O0.blk,fun o=>if o∈os then some (E.obj o)else O0.ob o⟩ w0 F s E tmps w:=
  { place:=h.place,obj:=h.obj,size:=h.size,i1:=h.i1,i2:=h.i2,i3:=h.i3,om_lt:=h.om_lt,om0:=h.om0,na:=h.na,np:=h.np,gr:=h.gr,flt:=h.flt,ob:=fun o b hb=>by
      simp only at hb;split at hb
      ·rename_i ho;cases hb;exact⟨rfl,hos o ho⟩
      ·exact h.ob o b hb }
theorem Rel.unpin{O1:Base}(h:Rel P O1 w0 F s E tmps w)(hb:O1.blk=O0.blk)(ho:∀o b,O0.ob o=some b→O1.ob o=some b):Rel P O0 w0 F s E tmps w:=
 { place:=h.place,obj:=h.obj,size:=h.size,i1:=h.i1,i2:=h.i2,i3:=h.i3,om_lt:=h.om_lt,om0:=by rw[←hb];exact h.om0,na:=h.na,np:=h.np,gr:=by rw[←hb];exact h.gr,flt:=h.flt,ob:=fun o b hb=>h.ob o b (ho o b hb) }
theorem Kq(h:Rel P O0 w0 F s E tmps w){q d:Nat}{t:TypeId}{cs:List SV}(hl:aj q s.hp=none)(vs:Array Value)(hsz:vs.size=cs.length)
  (hc:∀(i:Nat) (c:SV),cs[i]?=some c→c.easy=true∧ue c=true∧(∀v,vs[i]?=some v→c= .dead∨RS P (fun b=>E.om b∨F b) E w c v)∧(∀q,c.on q=false)∧∀o,c.pts o=true→∃y,aj o s.hp=some y):
  ∃E',Rel P O0 w0 F (put d (.ptr q 0) ⟨s.n,s.sl,(q,.cells t cs)::s.hp⟩) E' (tmps.setIfInBounds d (.pointer (some ⟨w.heap.size,0,none⟩))) (w.alloc (.cells vs t)):=by
 have h1:=h.newObj hl (.cells t cs) (.cells vs t) ⟨vs,by rw[bz];exact heap_alloc_new w _,Nat.le_of_eq hsz.symm,fun c hc'=>by
   obtain⟨i,hi,he⟩:=List.mem_iff_getElem.1 hc';exact(hc i c (by rw[←he];exact z03 hi)).2.1⟩
  (fun i c hic=>by
   obtain⟨k1,k2,k3,k4,k5⟩:=hc i c hic;have hi:i<vs.size:=by rw[hsz];exact(z06.1 hic).1
   refine⟨k1,⟨vs[i], ?_,k3 _ (z05 hi)⟩,k4,k5⟩;have:=World.cell?_alloc_new w vs t i;rw[this];exact z05 hi)
 refine⟨_,h1.putGood d ⟨rfl,by simp[SV.on],fun o ho=> ?_⟩ ?_⟩
 ·have:q=o:=by simpa[SV.pts]using ho
  subst this;exact⟨.cells t cs,by simp[aj]⟩
 ·have:=RS.ptr (P:=P) (A:=fun b=>(E.addObj q w.heap.size).om b∨F b) (E:=E.addObj q w.heap.size) (w:=w.alloc (.cells vs t)) q 0
  rwa [bz]at this
theorem Lb(h:Rel P O0 w0 F s E tmps w){q d:Nat}{t:TypeId}{cs:List SV}(hz:io P t=some cs)(hn:aj q s.hp=none):
  ∃v w' E',(Instr.alloc t true (.tuple #[])).run P w= .ok v w'∧Rel P O0 w0 F (put d (.ptr q 0) ⟨s.n,s.sl,(q,.cells t cs)::s.hp⟩) E' (tmps.setIfInBounds d v) w':=by
 obtain⟨i,z,hi,hiz,hs,hl,hc⟩:=zq hz;obtain⟨E',hE⟩:=Kq h (d:=d) (t:=t) (cs:=cs) hn z.cells hl (fun j c hj=>by
  have hlt:j<z.cells.size:=by rw[hl];exact(z06.1 hj).1
  have h1:=hc j c _ hj (z05 hlt);obtain⟨g1,g2,g3,g4,g5⟩:=Dv (s:=s) h1;exact⟨g1.1,g3,fun v hv=> .inr (RS.ofConst (hc j c v hj hv)),g4,fun o ho=>by rw[g5 o]at ho;cases ho⟩)
 refine⟨_,_,E', ?_,hE⟩;simp[Instr.alloc,zeroValue,typeInfo,hi,hiz,wk]
end
section
variable {P : Program} {R : Option Nat} {Φ : Exit → Cx → St → Prop} {k : List It} {C : Cx} {s : St}
theorem Kp{all:Array Oper}{o:Oper}{r:List Oper}{d:Nat}{t:TypeId}{cs:List SV}{s':St}(q:Nat)(h:AW P R Φ .normal (.ops all r::k) C s')
  (hl:aj q s.hp=none:=by rfl) (hg:o.guard=none:=by rfl) (hd:o.dst=some d:=by rfl) (ho:o.op= .alloc t:=by rfl) (hz:io P t=some cs:=by simp only[go_sem,↓reduceIte]<;>rfl) (hs:put d (.ptr q 0) ⟨s.n,s.sl,(q,.cells t cs)::s.hp⟩=s':=by simp only[go_sem,↓reduceIte]<;>rfl):AW P R Φ .normal (.ops all (o::r)::k) C s:=fun B a w ha=>by
 simp only[mz];refine cb (by simp[Region.wanted,hg]) (fun c hc=>by rw[ho]at hc;cases hc) ?_
 obtain⟨hdf,E,hE⟩:=ha;obtain⟨v,w',E',h1,h2⟩:=Lb hE (d:=d) hz hl;have hrun:(execOp a.eval o).run P w= .ok (.value v) w':=by simp[execOp,ho,h1]
 rw[hrun,Oper.uponIn_value,hd];rw[hs]at h2;exact h B _ w' ⟨by rw[cz];exact hdf,E',h2⟩
def ar3(s:St)(o:Nat):Bool:=match aj o s.hp with
 |some _=>true
 |none=>false
theorem AW.defer{all:Array Oper}{o:Oper}{r:List Oper}{c:Call}{fx:Operand}{f:FuncId}(os:List Nat)
  (h:AW P none Φ .normal (.ops all r::k) (DCx C f os) s) (hg:o.guard=none:=by rfl) (ho:o.op= .defer c:=by rfl) (hd:o.dst=none:=by rfl) (hc:c.callee= .value fx:=by rfl) (hca:c.args= #[]:=by rfl) (hf:ev s fx=some (.fn f (tv os)):=by simp only[go_sem,↓reduceIte]<;>rfl) (h1000:os.all (fun o=>decide (1000≤o))=true:=by rfl) (hos:os.all (ar3 s)=true:=by simp only[go_sem,↓reduceIte,ar3,List.all_cons,List.all_nil,Bool.and_self]<;>rfl):
  AW P none Φ .normal (.ops all (o::r)::k) C s:=fun B a w ha=>by
 simp only[mz];unfold wpListIn;rw[if_pos (by simp[Region.wanted,hg])]
 refine⟨fun f _=>trivial, ?_⟩
 rw[show(eg none).round=none from rfl,Oper.semAt_none]
 obtain⟨⟨hC,hl,hG⟩,E,hE⟩:=ha;obtain⟨cvs,e1,e2,e3⟩:=(cq hE hf).fn_inv;have hcv:cvs=(os.map E.obj).map aaw:=by
  refine List.ext_getElem? (fun i=> ?_)
  by_cases hi:i<cvs.length
  ·have hio:i<os.length:=by rw[e2,tv,List.length_map]at hi;exact hi
   have h1:=e3 i (.ptr os[i] 0) cvs[i] (by simp[tv,hio]) (z03 hi)
   rw[z03 hi];generalize cvs[i]=v at h1;cases h1
   simp[hio,aaw]
  ·rw[z13 (by omega),z13 (by simp[e2,tv]at hi⊢;omega)]
 have hrun:(execOp a.eval o).run P w= .ok (.defer ⟨.fn (.func f) cvs.toArray, #[]⟩) w:=by
  simp[execOp,ho,resolve,hc,e1,Deferred.ofValue,hca]
 rw[hrun,Oper.uponIn_defer,hd];refine h ⟨⟨B.O.blk,fun o=>if o∈os then some (E.obj o)else B.O.ob o⟩,B.w,B.F⟩ _ w ⟨⟨⟨B,a.defers,os.map E.obj,hC,⟨rfl,rfl,rfl,fun o b hb=> ?_⟩,by simp,fun i o b hi hb=> ?_, ?_⟩,fun o ho'=> ?_,hG⟩,E,hE.pin os (fun o ho'=>by
  have:=z00.1 hos o ho';unfold ar3 at this;split at this
  ·exact⟨_,by assumption⟩
  ·cases this)⟩
 ·simp only;split
  ·rw[(hE.ob o b hb).1]
  ·exact hb
 ·simp only;rw[if_pos (z08 hi)];rw[z01,hi]at hb;simpa using hb
 ·rw[hcv];rfl
 ·simp only;rw[if_neg (fun hm=>by have:=z00.1 h1000 o hm;simp[lim]at this ho';omega)]
  exact hl o ho'
theorem Yi{all:Array Oper}{o:Oper}{r:List Oper}{d:Nat}{t u:TypeId}{x:Operand}{p:PV}{fs:List (Nat×Nat×Bool)}(hT:tk P t= .st fs)
  (hk:AW P R Φ .normal (.ops all r::k) C (tg d [.pv p,.pv (.bool true)] s)) (hg:o.guard=none:=by rfl) (hd:o.dst=some d:=by rfl) (ho:o.op= .typeAssert x u t true:=by rfl) (hx:ev s x=some (.pv (.iface t p)):=by simp only[go_sem,↓reduceIte]<;>rfl):AW P R Φ .normal (.ops all (o::r)::k) C s:=fun B a w ha=>by
 simp only[mz];refine cb (by simp[Region.wanted,hg]) (fun c hc=>by rw[ho]at hc;cases hc) ?_
 obtain⟨hdf,E,hE⟩:=ha;have h1:=lu hE hx;obtain⟨fl,hu,_⟩:=Li hT;generalize hxe:a.eval x=y at h1;cases h1 with|iface _ _ v h1=> ?_
 have h2:(execOp a.eval o).run P w= .ok (.value (.tuple #[v,.bool true])) w:=by
  simp[execOp,ho,hxe,Instr.typeAssert,run_underlying hu]
 rw[h2,Oper.uponIn_value,hd];obtain⟨E',hE'⟩:=mn hE (ρ:=id) (rs:=[.pv p,.pv (.bool true)]) (us:=[v,.bool true]) d rfl rfl (fun i q y hq hy=>by
  match i with
  |0=>
   simp at hq hy;subst hq;subst hy
   exact⟨fun e xs he=>(by cases he),fun _ _=> .inr (.pv _ _ h1),fun o ho=>(by simp[SV.pts]at ho)⟩
  |1=>
   simp at hq hy;subst hq;subst hy
   exact⟨fun e xs he=>(by cases he),fun _ _=> .inr (.pv _ _ (.bool _)),fun o ho=>(by simp[SV.pts]at ho)⟩
  |i+2=>simp at hq)
 exact hk B _ w ⟨by rw[cz];exact hdf,E',hE'⟩
def af9:PV→Option Bool
 | .nili=>some true
 | .iface _ _=>some false
 |_=>none
theorem ahh{t:TypeId}(h:tk P t= .iface):∃ms,P.underlying t=some (.interface ms):=by
 unfold tk at h;split at h<;>simp at h
 exact⟨_,by assumption⟩
theorem Nw{all:Array Oper}{o:Oper}{r:List Oper}{d:Nat}{t u:TypeId}{x:Operand}{p:PV}{b:Bool}(hT:tk P t= .iface)
  (hk:AW P R Φ .normal (.ops all r::k) C (put d (.pv (.bool b)) s)) (hg:o.guard=none:=by rfl) (hd:o.dst=some d:=by rfl) (ho:o.op= .binOp .eql t x (.const .nilIface) u:=by rfl) (hx:ev s x=some (.pv p):=by simp only[go_sem,↓reduceIte]<;>rfl) (hb:af9 p=some b:=by rfl):AW P R Φ .normal (.ops all (o::r)::k) C s:=by
 refine oy hg hd (fun c hc=>by rw[ho]at hc;cases hc) ⟨rfl,by simp[SV.on],fun o ho=>by simp[SV.pts]at ho⟩ (fun B E a w _ hE=>⟨.bool b, ?_,.pv _ _ (.bool _)⟩) hk
 have e1:=lu hE hx;obtain⟨ms,hu⟩:=ahh hT;generalize hxe:a.eval x=v1 at e1;have hye:a.eval (.const .nilIface)= .nilIface:=rfl;cases p<;>simp[af9]at hb<;>subst hb<;>cases e1
 ·have he:∀(n:Nat) q z,(Op.equalIn (n+1) t (.iface q z) .nilIface).run P w= .ok false w:=fun n q z=>by
   simp[Op.equalIn,run_underlying hu]
  have hb2:∀q z,(binOp .eql t (.iface q z) .nilIface).run P w= .ok (.bool false) w:=fun q z=>by
   show(do pure (.bool (←Op.equalIn (9999+1) t _ _)):Sem Value).run P w=_
   simp only[Sem.run_bind,he,Result.andThen_ok,Sem.run_pure]
  have hg2:∀q z,(eqGuard .eql t x (.const .nilIface) (.iface q z) .nilIface).run P w= .ok () w:=fun q z=>by rw[eqGuard_at_iface];rfl
  simp only[execOp,ho,hxe,hye,Sem.run_bind,hg2,hb2,Result.andThen_ok,Sem.run_pure]
 ·have he:∀(n:Nat),(Op.equalIn (n+1) t .nilIface .nilIface).run P w= .ok true w:=fun n=>by
   simp[Op.equalIn,run_underlying hu]
  have hb2:(binOp .eql t .nilIface .nilIface).run P w= .ok (.bool true) w:=by
   show(do pure (.bool (←Op.equalIn (9999+1) t _ _)):Sem Value).run P w=_
   simp only[Sem.run_bind,he,Result.andThen_ok,Sem.run_pure]
  have hg2:(eqGuard .eql t x (.const .nilIface) .nilIface .nilIface).run P w= .ok () w:=by rw[eqGuard_nil_constR];rfl
  simp only[execOp,ho,hxe,hye,Sem.run_bind,hg2,hb2,Result.andThen_ok,Sem.run_pure]
theorem Dp{all:Array Oper}{o:Oper}{r:List Oper}{d:Nat}{t u e:TypeId}{ez eb:Nat}{ea:Bool}{x:Operand}{l:List UInt8}(hl:l.length≤maxLen)(hS:tk P t= .str)(hT:tk P u= .sl e ez eb ea)(he:tk P e= .int .u8)
  (hk:AW P R Φ .normal (.ops all r::k) C (put d (.pv (.sl 1 (c5 l))) s)) (hg:o.guard=none:=by rfl) (hd:o.dst=some d:=by rfl) (ho:o.op= .convert t u x:=by rfl) (hx:ev s x=some (.pv (.str l)):=by simp only[go_sem,↓reduceIte]<;>rfl):AW P R Φ .normal (.ops all (o::r)::k) C s:=fun B a w ha=>by
 simp only[mz];refine cb (by simp[Region.wanted,hg]) (fun c hc=>by rw[ho]at hc;cases hc) ?_
 obtain⟨hdf,E,hE⟩:=ha;have e1:=lu hE hx;generalize hxe:a.eval x=v1 at e1;cases e1
 have hrun:(execOp a.eval o).run P w= .ok (.value (.slice (some ⟨w.heap.size,0,none⟩) l.length (grownCap w l.length 0 e))) (Lib.bytesWorld w e ⟨l.toArray⟩):=by
  have:=Lib.run_convert_string_bytes (P:=P) w t u e ⟨l.toArray⟩ (rz hS) (p9 hT).1 (r5 he);simp only[ByteArray.size,List.size_toArray]at this;simp[execOp,ho,hxe,this]
 rw[hrun,Oper.uponIn_value,hd];have hlen:(⟨l.toArray⟩:ByteArray).size=l.length:=by simp[ByteArray.size]
 have hgr:Grow (fun _=>False) w (Lib.bytesWorld w e ⟨l.toArray⟩):=⟨rfl,rfl,rfl,by rw[Lib.bytesWorld_size];omega,fun b hb _=>Lib.bytesWorld_at_old w e _ b hb⟩
 have hE1:=hE.world hgr (fun b hb=>hb.elim) (fun _=>False) (fun b hb=>hb.elim)
 have hfl:da (c5 l)=c5 l:=by
  have:∀l:List UInt8,da (c5 l)=c5 l:=fun l=>by
   induction l with
   |nil=>rfl
   |cons b r ih=>rw[c5,List.map_cons,jq];exact congrArg (_:: ·) ih
  exact this l
 have hro:RO (fun b=>(E.addOm fun _=>False).om b∨B.F b) (Lib.bytesWorld w e ⟨l.toArray⟩) (.sl 1 (c5 l)) (.slice (some ⟨w.heap.size,0,none⟩) (c5 l).length (grownCap w l.length 0 e)):=by
  refine .sl 1 (c5 l) (l.map fun b=>Value.int .u8 b.toNat) _ _ (by rw[hfl];simp[c5]) (fun c hc=> ?_) (fun i c v hc hv=> ?_) (fun i v hv=> ?_) (fun p hp=> ?_) (by simpa[c5]using hl) ?_
  ·rw[hfl]at hc;obtain⟨b,_,rfl⟩:=z10.1 hc;rfl
  ·rw[hfl,c5,z01,z07]at hc;obtain⟨b,hb,rfl⟩:=hc;rw[z01,hb]at hv;cases hv
   exact .int _ _
  ·have hi:i<l.length:=by simpa using(z06.1 hv).1
   refine⟨_,rfl, ?_, ?_⟩
   ·rintro((h1|h1)|h1)
    ·have:=(hE.om_lt _ h1).1;simp at this
    ·exact h1
    ·have:=hE.flt _ h1;have:=hE.gr.size;simp at*;omega
   ·have:=Lib.bytesWorld_cell w e ⟨l.toArray⟩ i (by rw[hlen];exact hi)
    have ead:(Addr.add ⟨w.heap.size,0,none⟩ i)=⟨w.heap.size,i,none⟩:=by
     unfold Addr.add;split
     ·rename_i h0;subst h0;rfl
     ·simp
    rw[ead,this];rw[z01,z03 hi]at hv;cases hv
    simp[List.getD_eq_getElem?_getD,hi]
  ·obtain⟨b,_,rfl⟩:=z10.1 hp;rfl
  ·have:=grownCap_ge w l.length 0 e;simpa[c5]using this
 have hsl:(c5 l).length=l.length:=by simp[c5]
 rw[hsl]at hro;exact hk B _ _ ⟨by rw[cz];exact hdf,_,hE1.putGood d ⟨rfl,by simp[SV.on],fun o ho=>by simp[SV.pts]at ho⟩ (.pv _ _ hro)⟩
end
end Go.Ck
namespace Go.Ck
open Go.RowKit
def FnD(P:Program)(f:FuncId)(H:List (Nat×HO))(args:List SV)(u u':FrameMode)(Ψ:List (Nat×HO)→Prop):Prop:=
 (∃fn,P.funcs[f]?=some fn∧(fn.name== "runtime.NumGoroutine")=false∧fn.body.isNone=false)∧∀(F:Nat→Prop) (w:World) (E:Env) (vals:List Value),vals.length=args.length→Gj P (fun b=>E.om b∨F b) w→Rel P ⟨E.om,d9 E H⟩ w F ⟨vals.length,c8 args 0,H⟩ E vals.toArray w→
  CallsD P f vals.toArray u w (fun e m w'=>m=u'∧(∃v,e= .returned v)∧∃H' E',Ψ H'∧Rel P ⟨E.om,d9 E H⟩ w F ⟨0,[],H'⟩ E' #[] w')
def Vd(ch:List PanicEntry):FrameMode:= .panicking (ch.map fun e=> { e with recovered:=true })
theorem Ts{ch:List PanicEntry}{p:PV}(h:Pan ch p):settle (Vd ch)= .returning:=by
 obtain⟨x,rfl,_⟩:=h;rfl
def aIj(u u':FrameMode)(p:PV):Prop:=(u= .returning∧u'= .returning∧p= .nili)∨∃ch,u= .panicking ch∧Pan ch p∧u'=Vd ch
theorem Ko{P:Program}{f:FuncId}{fn:Func}{id:Nat}{o0:Oper}{ca:Call}{c:Code}{H:List (Nat×HO)}{args:List SV}{u u':FrameMode}{p:PV}{Ψ:List (Nat×HO)→Prop}{n d:Nat}
  (hf:P.funcs[f]?=some fn) (hb:fn.body=some (.seq (.region id #[o0] false) c)) (ho:o0.op= .call ca) (hca:ca.callee= .builtin .recover) (hg:o0.guard=none) (hd:o0.dst=some d) (hn:n=args.length+(fn.ntmps-args.length)) (hres:fn.results.toList=[]) (hname:(fn.name== "runtime.NumGoroutine")=false) (hH:H.all (fun y=>decide (1000≤y.1))=true)
  (hu:aIj u u' p) (h:∀C,AW P none (rq P [] H (fun rs H'=>rs=[]∧Ψ H') C) .normal [.code c] C (put d (.pv p) ⟨n,c8 args 0,H⟩)):FnD P f H args u u' Ψ:=⟨⟨fn,hf,hname,by simp[hb]⟩,fun F w E vals hl hG hR=>by
 refine callsD_of_wpS hf hb (fun c₀ cs hcu=> ?_)
 apply wpS_seq
 apply wpS_region
 have hr1:List.range (#[o0]:Array Oper).size=[0]:=rfl;rw[hr1];have h0:=hR.extend (u:=z02 (fn.ntmps-vals.toArray.size) undef) (n:=n) (by simp[hn,hl])
 have hrec:∀a:Act,(execOp a.eval o0).run P w= .ok .recover w:=fun a=>by
  simp[execOp,ho,resolve,hca,invoke,builtin]
 simp only[wpOpsS,List.getElem?_toArray,List.getElem?_cons_zero];rw[if_pos (by simp[Region.wanted,hg]),hrec]
 simp only;have hback:∃v cs',(match recoverD (c₀::cs)with|some (v,cs')=>(v,cs')|none=>(Value.nilIface,c₀::cs))=(v,cs')∧cs'= { c₀ with mode:=u' } ::cs∧∀(A:Nat→Prop) (w:World),RO A w p v:=by
  rcases hu with⟨rfl,rfl,rfl⟩|⟨ch,rfl,⟨x,rfl,hsol,A,w1,hro⟩,rfl⟩
  ·refine⟨.nilIface,c₀::cs,by simp[recoverD,hcu],by rw[←hcu],fun A w=> .nili⟩
  ·exact⟨x,{ c₀ with mode:=Vd [{ v:=x,recovered:=false }] } ::cs,by simp[recoverD,hcu,Vd],rfl,fun A' w'=>hro.solid hsol⟩
 obtain⟨v,cs',e1,e2,hro⟩:=hback;have goal:c.wpS P (bodyPostS P fn c₀ cs fun e m w'=>m=u'∧(∃v,e= .returned v)∧∃H' E',Ψ H'∧Rel P ⟨E.om,d9 E H⟩ w F ⟨0,[],H'⟩ E' #[] w') (({ tmps:=vals.toArray++z02 (fn.ntmps-vals.toArray.size) undef,defers:=[] } :Act).put (some d) v) cs' w:=by
  refine wpS_of_wp ?_;have h1:=h0.putGood d (v:= .pv p) (x:=v) ⟨rfl,by simp[SV.on],fun o ho=>by simp[SV.pts]at ho⟩ (.pv _ _ (hro _ _))
  let B0:Bs:=⟨⟨E.om,d9 E H⟩,w,F⟩
  have hw:=h (fun B d=>B=B0∧d=[]) B0 (({ tmps:=vals.toArray++z02 (fn.ntmps-vals.toArray.size) undef,defers:=[] } :Act).put (some d) v) w ⟨⟨⟨rfl,rfl⟩,(fun o ho=>by
   show d9 E H o=none
   unfold d9;split
   ·rename_i y hy;have:=z00.1 hH _ (ib hy);simp at this;simp only[lim]at ho;omega
   ·rfl),hG⟩,E,h1⟩
  simp only[mz]at hw;refine wp_mono ((wpIn_wide (n:=0)).1 hw) (fun e a w' hq=> ?_)
  obtain⟨C',s',B,⟨rfl,he,svs,rs,H',L,m,h1,h2,h3,h4,rfl,h5⟩,⟨⟨rfl,hdf⟩,_⟩,E',hE⟩:=hq;obtain⟨us,k1,k2,k3⟩:=h1.sound hE;obtain⟨q1,E'',q2⟩:=Dj hE k2 k3 h2 h3 h4;have hus:us=[]:=List.length_eq_zero_iff.1 q1;subst hus;have hr:(results fn a.tmps).run P w'= .ok (ve []) w':=ku (by rw[hres];exact k1)
  have hfin:a.defers=[]∧∃u2,cs'= { c₀ with mode:=u2 } ::cs∧∃v,(results fn a.tmps).run P w'= .ok v w'∧(u2=u'∧(∃v',Ending.returned v= .returned v')∧∃H' E',Ψ H'∧Rel P ⟨E.om,d9 E H⟩ w F ⟨0,[],H'⟩ E' #[] w'):=
   ⟨hdf,u',e2,_,hr,rfl,⟨_,rfl⟩,H',E'',h5,q2⟩
  rcases he with rfl|rfl
  ·exact hfin
  ·exact hfin
 rw[hd];cases hrd:recoverD (c₀::cs)with
 |none=>rw[hrd]at e1;cases e1;exact goal
 |some vc=>obtain⟨v2,cs2⟩:=vc;rw[hrd]at e1;cases e1;exact goal⟩
def afs(P:Program)(res:List ResultVar)(H:List (Nat×HO))(Ψ:List SV→List (Nat×HO)→Prop)(C:Cx)(g:FuncId)(os:List Nat)(e:Exit)(C':Cx)(s':St):Prop:=
 C'=DCx C g os∧∃u u' H1 H2,(((e= .normal∨e= .ret)∧u= .returning)∨∃ch,e= .panic ch∧u= .panicking ch)∧settle u'= .returning∧FnD P g H1 (tv os) u u' (fun H'=>H'=H2)∧
  CallOK s' id H1 (tv os) [] none∧(bk H2).Nodup∧(∀o∈bk H2,aj o H1=none→aj o s'.hp=none)∧
  ∃svs rs H' L m,Rets P (mj s' id none H1 H2) res svs∧Pass P (mj s' id none H1 H2) id svs rs L m∧CallOK (mj s' id none H1 H2) id H' rs L m∧(∀o y,aj o H=some y→∃z,aj o H'=some z)∧Ψ rs H'
theorem Mk{P:Program}{s:St}:∀os:List Nat,Pass P s id (tv os) (tv os) [] none
 |[]=> .nil
 |o::r=> .ptr rfl (Mk r)
theorem U3{P:Program}{f:FuncId}{fn:Func}{c:Code}{H:List (Nat×HO)}{args:List SV}{Ψ:List SV→List (Nat×HO)→Prop}{n:Nat}{res:List ResultVar}(g:FuncId)(os:List Nat)(hf:P.funcs[f]?=some fn)(hb:fn.body=some c)(hn:n=args.length+(fn.ntmps-args.length))(hres:fn.results.toList=res)(hname:(fn.name== "runtime.NumGoroutine")=false)(hH:H.all (fun y=>decide (1000≤y.1))=true)
  (h:∀C,AW P none (afs P res H Ψ C g os) .normal [.code c] C ⟨n,c8 args 0,H⟩):Fn P f H args Ψ:=⟨⟨fn,hf,hname,by simp[hb]⟩,fun F w E vals hl hG hR=>by
 subst hres;refine calls_of_wp_defers hf hb ?_;have h0:=hR.extend (u:=z02 (fn.ntmps-vals.toArray.size) undef) (n:=n) (by simp[hn,hl])
 let B0:Bs:=⟨⟨E.om,d9 E H⟩,w,F⟩
 have hw:=h (fun B d=>B=B0∧d=[]) B0 { tmps:=vals.toArray++z02 (fn.ntmps-vals.toArray.size) undef,defers:=[] } w ⟨⟨⟨rfl,rfl⟩,(fun o ho=>by
  show d9 E H o=none
  unfold d9;split
  ·rename_i y hy;have:=z00.1 hH _ (ib hy);simp at this;simp only[lim]at ho;omega
  ·rfl),hG⟩,E,h0⟩
 simp only[mz]at hw;refine wp_mono ((wpIn_wide (n:=0)).1 hw) (fun e a w' hq=> ?_)
 obtain⟨C',s',B,⟨rfl,u,u',H1,H2,hmode,hset,hD,hok,hnd,hfr,svs,rs,H',L,m,r1,r2,r3,r4,hΨ⟩,⟨hC,hlim,hG'⟩,E',hE⟩:=hq;obtain⟨_,_,bs,⟨rfl,rfl⟩,hext,hbl,hbo,hdf⟩:=hC;obtain⟨x1,x2,x3,x4⟩:=hext;have hgok:Gj P (fun b=>E'.om b∨B.F b) w':=v8 hG' hE
 obtain⟨gfn,gf,gname,gbody⟩:=hD.1;have hinv:(invoke (.fn (.func g) (bs.map aaw).toArray) #[]).run P w'= .ok (.enter g (bs.map aaw).toArray) w':=by
  have hbody':∃b,gfn.body=some b:=by cases hb:gfn.body with|none=>simp[hb]at gbody|some b=>exact⟨b,rfl⟩
  obtain⟨b,hb⟩:=hbody';have hname':¬gfn.name= "runtime.NumGoroutine" :=by simpa using gname
  simp[invoke,callFunc,gf,hname',hb]
 obtain⟨F',E0,hGc,hent,f1,hback⟩:=Nh (a:=a) hE hgok (ρ:=id) (H:=H1) (svs:=tv os) (args:=tv os) (L:=[]) (m:=none) (vals:=bs.map aaw) (by simp[tv,hbl]) (fun i v x hi hxi=>by
  simp only[tv,z01,z07]at hi hxi;obtain⟨o,ho,rfl⟩:=hi;obtain⟨b,hb,rfl⟩:=hxi;have:=(hE.ob o b (hbo i o b ho hb)).1;have hr:=RS.ptr (P:=P) (A:=fun b=>E'.om b∨B.F b) (E:=E') (w:=w') o 0
  rw[this]at hr;exact hr) (Mk os) hok
 have hcall:=hD.2 F' w' E0 _ f1 hGc hent;have hleaves:∀ds,ds=a.defers→u≠ .run→Leaves P fn a.tmps (fun
   | .returned v,w'=> ∃rs H' E' us,Ψ rs H'∧us.length=rs.length∧v=ve us∧Rel P ⟨E.om,d9 E H⟩ w F ⟨us.length,c8 rs 0,H'⟩ E' us.toArray w'
   | .panicked _,_=>False
   | .outgrown,_=>False) ds u w':=by
  intro ds hds hur;rw[hds,hdf];refine leaves_cons hur hinv (hcall.mono (fun e m2 w2 hq=> ?_))
  obtain⟨rfl,⟨v,rfl⟩,H2',E2,rfl,hR2⟩:=hq;obtain⟨⟨E3,h3⟩,_⟩:=hback [] H2' E2 [] w2 rfl hR2 hnd (fun o _ o' _ h=>h) hfr (.inl rfl)
  rw[x1,x2]at h3;have h4:=h3.unpin (O0:=⟨E.om,d9 E H⟩) x3 x4;have h5:Rel P ⟨E.om,d9 E H⟩ w F (mj s' id none H1 H2') E3 a.tmps w2:=h4;obtain⟨us,k1,k2,k3⟩:=r1.sound h5;obtain⟨q1,E'',q2⟩:=Dj h5 k2 k3 r2 r3 r4;simp only[hset,Leaves];exact⟨ve us,ku k1,rs,H',_,us,hΨ,q1,rfl,q2⟩
 rcases hmode with⟨he,rfl⟩|⟨ch,rfl,rfl⟩
 ·have:=hleaves _ rfl (by simp)
  rcases he with rfl|rfl
  ·exact this
  ·exact this
 ·exact hleaves _ rfl (by simp)⟩
section
variable {P : Program} {C : Cx} {s : St}
theorem aqp{res:List ResultVar}{H H1 H2 H':List (Nat×HO)}{Ψ:List SV→List (Nat×HO)→Prop}{e:Exit}{svs rs:List SV}{L:List Place}{m:Option Place}{g:FuncId}{os:List Nat}{s':St}
  (hD:FnD P g H1 (tv os) .returning .returning (fun H'=>H'=H2)) (hP:Pass P s' id svs rs L m) (hΨ:Ψ rs H') (he:e= .normal∨e= .ret:=by first|exact .inl rfl|exact .inr rfl) (hM1:HM s id H1:=by simp only[go_sem,↓reduceIte];try trivial) (hB1:Hc id H1 (tv os) [] none=true:=by simp only[go_sem,↓reduceIte,tv]) (hA:Hg s id H1 [] H2=true:=by simp only[go_sem,↓reduceIte,Hg]) (hs:mj s id none H1 H2=s':=by simp only[go_sem,↓reduceIte,mj]<;>rfl)
  (hv:ud P s' res=some svs:=by simp only[go_sem,↓reduceIte]<;>rfl) (hM:HM s' id H':=by simp only[go_sem,↓reduceIte];try trivial) (hB:Hc id H' rs L m=true:=by simp only[go_sem,↓reduceIte]) (hn:Fu H H'=true:=by simp only[go_sem,↓reduceIte]):AW P none (afs P res H Ψ C g os) e [] (DCx C g os) s:=by
 subst hs;simp only[Hg,z04]at hA;obtain⟨⟨a2,a3⟩,_⟩:=hA;exact AW.nil ⟨rfl,.returning,.returning,H1,H2,.inl ⟨he,rfl⟩,rfl,hD,.ofB hM1 hB1,(ko a2).1,kw a3,svs,rs,H',L,m,mv hv,hP,.ofB hM hB,(fun o y hy=>by
  have:=z00.1 hn (o,y) (ib hy);simp only at this;split at this
  ·rename_i z hz;exact⟨z,hz⟩
  ·cases this),hΨ⟩
theorem mb{res:List ResultVar}{H H1 H2 H':List (Nat×HO)}{Ψ:List SV→List (Nat×HO)→Prop}{ch:List PanicEntry}{p:PV}{svs rs:List SV}{L:List Place}{m:Option Place}{g:FuncId}{os:List Nat}{s':St}
  (hpan:Pan ch p) (hD:FnD P g H1 (tv os) (.panicking ch) (Vd ch) (fun H'=>H'=H2)) (hP:Pass P s' id svs rs L m) (hΨ:Ψ rs H') (hM1:HM s id H1:=by simp only[go_sem,↓reduceIte];try trivial) (hB1:Hc id H1 (tv os) [] none=true:=by simp only[go_sem,↓reduceIte,tv]) (hA:Hg s id H1 [] H2=true:=by simp only[go_sem,↓reduceIte,Hg]) (hs:mj s id none H1 H2=s':=by simp only[go_sem,↓reduceIte,mj]<;>rfl)
  (hv:ud P s' res=some svs:=by simp only[go_sem,↓reduceIte]<;>rfl) (hM:HM s' id H':=by simp only[go_sem,↓reduceIte];try trivial) (hB:Hc id H' rs L m=true:=by simp only[go_sem,↓reduceIte]) (hn:Fu H H'=true:=by simp only[go_sem,↓reduceIte]):AW P none (afs P res H Ψ C g os) (.panic ch) [] (DCx C g os) s:=by
 subst hs;simp only[Hg,z04]at hA;obtain⟨⟨a2,a3⟩,_⟩:=hA;exact AW.nil ⟨rfl,.panicking ch,Vd ch,H1,H2,.inr ⟨ch,rfl,rfl⟩,Ts hpan,hD,.ofB hM1 hB1,(ko a2).1,kw a3,svs,rs,H',L,m,mv hv,hP,.ofB hM hB,(fun o y hy=>by
  have:=z00.1 hn (o,y) (ib hy);simp only at this;split at this
  ·rename_i z hz;exact⟨z,hz⟩
  ·cases this),hΨ⟩
end
end Go.Ck
namespace Go.Ck
attribute [go_sem] tv Hg mj
end Go.Ck

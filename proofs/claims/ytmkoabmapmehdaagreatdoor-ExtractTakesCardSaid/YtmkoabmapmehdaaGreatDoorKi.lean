/- What is proved here: parts of the proofs of this seat's statements (a verified evaluator for calls over pure values, its laws, and contracts of functions). No condition. -/
import Derived.Test.YtmkoabmapmehdaaGreatDoorKh
import Derived.Laws.Cover3
set_option linter.all false
open Bool renaming and_eq_true→z00,or_eq_true→z11
open List renaming all_eq_true→z01,mem_map→z02,mem_cons→z03,map_cons→z06,getElem?_cons_zero→z07,mem_of_getElem?→z08,length_cons→z09
open Array renaming getElem?_eq_some_iff→z04,getElem?_append_left→z05,replicate→z10
namespace Go.Ck
open Go.RowKit
section
variable {P : Program} {O0 : Base} {F : Nat → Prop} {w0 w : World} {s : St} {E : Env} {a : Act}
theorem Rel.extend{k:Nat}{sl:List (Nat×SV)}{hp:List (Nat×HO)}{t u:Array Value}(h:Rel P O0 w0 F ⟨k,sl,hp⟩ E t w){n:Nat}(hn:n=(t++u).size):Rel P O0 w0 F ⟨n,sl,hp⟩ E (t++u) w where
 place p v hp':=by
  obtain⟨x,hx,hv⟩:=h.place p v (by cases p<;>exact hp')
  refine⟨x, ?_,hv⟩;cases p with
  |slot d=>
   simp only[CV]at hx⊢;rw[z05 (z04.1 hx).1];exact hx
  |part d i=>
   simp only[CV]at hx⊢;obtain⟨vs,h1,h2⟩:=hx;exact⟨vs,by rw[z05 (z04.1 h1).1];exact h1,h2⟩
  |cell o i=>exact hx
 obj:=h.obj
 size:=hn
 i1:=h.i1
 i2 p q e xs e' ys b hp hq:=h.i2 p q e xs e' ys b (by cases p<;>exact hp) (by cases q<;>exact hq)
 i3 p e xs o y b hp:=h.i3 p e xs o y b (by cases p<;>exact hp)
 om_lt:=h.om_lt
 om0:=h.om0
 na p v q hp hq:=by
  obtain⟨h1,⟨e,xs,h2⟩,h3⟩:=h.na p v q (by cases p<;>exact hp) hq
  exact⟨h1,⟨e,xs,by cases q<;>exact h2⟩,h3⟩
 np p v o hp ho:=h.np p v o (by cases p<;>exact hp) ho
 gr:=h.gr
 flt:=h.flt
 ob:=h.ob
inductive Rets (P:Program) (s:St):List ResultVar→List SV→Prop where
 |nil:Rets P s [] []
 |tmp {t:Tmp} {v:SV} {r:List ResultVar} {vs:List SV} (hv:ev s (.tmp t)=some v) (h:Rets P s r vs):Rets P s (.tmp t::r) (v::vs)
 |cell {b:Tmp} {t:TypeId} {o off:Nat} {v:SV} {r:List ResultVar} {vs:List SV} (ha:ev s (.tmp b)=some (.ptr o off)) (hv:aload (gq P t) s (.ptr o off)=some v) (h:Rets P s r vs):Rets P s (.cell b t::r) (v::vs)
def Hm(tmps:Array Value):ResultVar→Sem Value
 | .tmp t=>pure (tmps.getD t undef)
 | .cell b t=>do loadVar t (←asAddr (tmps.getD b undef))
theorem A0{tmps:Array Value}{r:ResultVar}{l:List ResultVar}{x:Value}{us:List Value}(h:(Hm tmps r).run P w= .ok x w)(h1:(l.mapM (Hm tmps)).run P w= .ok us w):((r::l).mapM (Hm tmps)).run P w= .ok (x::us) w:=by
 simp[List.mapM_cons,h,h1]
theorem Rets.sound(h:Rel P O0 w0 F s E a.tmps w){l:List ResultVar}{svs:List SV}(hr:Rets P s l svs):
  ∃us:List Value,(l.mapM (Hm a.tmps)).run P w= .ok us w∧us.length=svs.length∧∀(i:Nat) (v:SV) (x:Value),svs[i]?=some v→us[i]?=some x→RS P (fun b=>E.om b∨F b) E w v x:=by
 induction hr with
 |nil=>exact⟨[],by simp,rfl,by simp⟩
 |tmp hv _ ih=>
  obtain⟨us,h1,h2,h3⟩:=ih;have h0:=h.ev_tmp hv;refine⟨_::us,A0 (Sem.run_pure ..) h1,by simp[h2],fun i v x hi hx=> ?_⟩
  cases i with
  |zero=>rw[z07]at hi hx;cases hi;cases hx;exact h0
  |succ i=>exact h3 i v x (by simpa using hi) (by simpa using hx)
 |cell ha hv _ ih=>
  obtain⟨us,h1,h2,h3⟩:=ih;have h0:=h.ev_tmp ha;obtain⟨y,k1,k2⟩:=Gf h hv h0;refine⟨y::us, ?_,by simp[h2],fun i v x hi hx=> ?_⟩
  ·refine A0 ?_ h1;simp only[Hm];generalize a.tmps.getD _ undef=p at h0 k1⊢;cases h0
   simp[Instr.loadAt,Instr.sureAddr]at k1;simp[asAddr,k1]
  ·cases i with
   |zero=>simp at hi hx;subst hi;subst hx;exact k2
   |succ i=>exact h3 i v x (by simpa using hi) (by simpa using hx)
theorem ku{fn:Func}{tmps:Array Value}{us:List Value}(h:(fn.results.toList.mapM (Hm tmps)).run P w= .ok us w):(results fn tmps).run P w= .ok (ve us) w:=by
 have e:results fn tmps=(do
  let vs←fn.results.mapM (Hm tmps)
  pure (if h:vs.size=1 then vs[0]else .tuple vs)):=rfl
 rw[e,Array.mapM_eq_mapM_toList];simp only[Sem.run_bind,Sem.run_map,h,Sem.run_pure]
 match us with
 |[]=>simp[ve]
 |[u]=>simp[ve]
 |u::v::r=>simp[ve]
end
end Go.Ck
namespace Go.Ck
open Go.RowKit
section
variable {P : Program} {O0 : Base} {F : Nat → Prop} {w0 w : World} {s : St} {E : Env} {a : Act}
def rq(P:Program)(res:List ResultVar)(H:List (Nat×HO))(Ψ:List SV→List (Nat×HO)→Prop)(C:Cx)(e:Exit)(C':Cx)(s':St):Prop:=
 C'=C∧(e= .normal∨e= .ret)∧∃svs rs H' L m,Rets P s' res svs∧Pass P s' id svs rs L m∧CallOK s' id H' rs L m∧(∀o y,aj o H=some y→∃z,aj o H'=some z)∧Ψ rs H'
theorem Fn.of_body{f:FuncId}{fn:Func}{c:Code}{H:List (Nat×HO)}{args:List SV}{Ψ:List SV→List (Nat×HO)→Prop}{n:Nat}{res:List ResultVar}(hf:P.funcs[f]?=some fn)(hb:fn.body=some c)(hn:n=args.length+(fn.ntmps-args.length))(hres:fn.results.toList=res)(hname:(fn.name== "runtime.NumGoroutine")=false)(hH:H.all (fun y=>decide (1000≤y.1))=true)
  (h:∀C,AW P none (rq P res H Ψ C) .normal [.code c] C ⟨n,c8 args 0,H⟩):Fn P f H args Ψ:=⟨⟨fn,hf,hname,by simp[hb]⟩,fun F w E vals hl hG hR=>by
 subst hres;refine calls_of_wp hf hb ?_;have h0:=hR.extend (u:=z10 (fn.ntmps-vals.toArray.size) undef) (n:=n) (by simp[hn,hl])
 let B0:Bs:=⟨⟨E.om,d9 E H⟩,w,F⟩
 have hw:=h (fun B d=>B=B0∧d=[]) B0 { tmps:=vals.toArray++z10 (fn.ntmps-vals.toArray.size) undef,defers:=[] } w ⟨⟨⟨rfl,rfl⟩,(fun o ho=>by
  show d9 E H o=none
  unfold d9;split
  ·rename_i y hy;have:=z01.1 hH _ (ib hy);simp at this;simp only[lim]at ho;omega
  ·rfl),hG⟩,E,h0⟩
 simp only[mz]at hw;refine wp_mono ((wpIn_wide (n:=0)).1 hw) (fun e a w' hq=> ?_)
 obtain⟨C',s',B,⟨rfl,he,svs,rs,H',L,m,h1,h2,h3,h4,h5⟩,⟨⟨rfl,hd⟩,_⟩,E',hE⟩:=hq;obtain⟨us,k1,k2,k3⟩:=h1.sound hE;obtain⟨Lt,p1,p2,p3,p4,p5⟩:=arz hE k2 k3 h2 h3;have hent:=Ln p4 (ρ:=id) (H:=H') (Lt:=Lt) (args:=rs) (vals:=us) p5 h3.inj h3.hp p2 p3;have hom:∀b,xz E' id H' rs us b→E'.om b:=fun b hb=>yn p4 p3 p5 hb
 have hfin:=hent.rebase (O0:=⟨E.om,d9 E H⟩) (w0:=w) (F:=F) (fun b hb=>⟨.inr hb,fun hc=>(hE.om_lt b (hom b hc)).2 hb,fun hc=>(hE.om_lt b (p1 b hc)).2 hb⟩) (fun b hb=>hE.om0 b (hom b hb)) hE.gr hE.flt (fun o b hb=>by
  obtain⟨q1,_⟩:=hE.ob o b hb;refine⟨q1, ?_⟩;simp only[d9]at hb;split at hb
  ·rename_i y hy;exact h4 o y hy
  ·cases hb)
 have hfin':a.defers=[]∧∃v,(results fn a.tmps).run P w'= .ok v w'∧∃rs H' E' us,Ψ rs H'∧us.length=rs.length∧v=ve us∧Rel P ⟨E.om,d9 E H⟩ w F ⟨us.length,c8 rs 0,H'⟩ E' us.toArray w':=
  ⟨hd,ve us,ku k1,rs,H',_,us,h5,p3.len,rfl,hfin⟩
 rcases he with rfl|rfl
 ·exact hfin'
 ·exact hfin'⟩
theorem Fn.ob{f:FuncId}{c:Code}{H:List (Nat×HO)}{args:List SV}{Ψ:List SV→List (Nat×HO)→Prop}(fn:Func)(n:Nat)(res:List ResultVar)
 (h:∀C,AW P none (rq P res H Ψ C) .normal [.code c] C ⟨n,c8 args 0,H⟩) (hf:P.funcs[f]?=some fn:=by kernel_rfl) (hb:fn.body=some c:=by rfl) (hn:n=args.length+(fn.ntmps-args.length):=by rfl) (hres:fn.results.toList=res:=by rfl) (hname:(fn.name== "runtime.NumGoroutine")=false:=by rfl) (hH:H.all (fun y=>decide (1000≤y.1))=true:=by rfl):Fn P f H args Ψ:=Fn.of_body hf hb hn hres hname hH h
end
end Go.Ck
namespace Go.Ck
def Hs:List Nat→List (Nat×SV)→List (Nat×SV)
 |[],_=> []
 |d::r,sl=>match aj d sl with
  |some v=>(d,v)::Hs r sl
  |none=>Hs r sl
theorem wp(d:Nat)(sl:List (Nat×SV)):∀ds:List Nat,aj d (Hs ds sl)=if d∈ds then aj d sl else none
 |[]=>by simp[Hs,aj]
 |k::r=>by
  simp only[Hs];split
  ·rename_i v hv;simp only[aj];by_cases h:k=d
   ·subst h;simp[hv]
   ·rw[if_neg h,wp d sl r];simp[Ne.symm h]
  ·rename_i hv;rw[wp d sl r];by_cases h:d=k
   ·subst h;simp[hv]
   ·simp[h]
section
variable {P : Program} {O0 : Base} {F : Nat → Prop} {w0 w : World} {s : St} {E : Env} {a : Act} {tmps : Array Value}
end
end Go.Ck
namespace Go.Ck
theorem CallOK.none{s:St}{ρ:Nat→Nat}{args:List SV}{L:List Place}{m:Option Place}(h:args.all (fun c=>match c with| .ptr _ _| .mp _| .os _ _ _| .bm _ _| .fn _ (_::_)=>false|_=>true)=true)(hm:∀p∈L,m≠some p):CallOK s ρ [] args L m where
 hH o y h:=by simp[aj]at h
 inj o o' y y' h:=by simp[aj]at h
 hp o y c o' h:=by simp[aj]at h
 pts c hc o ho:=by
  have h1:=z01.1 h c hc;cases c with
  |ptr _ _=>cases h1
  |mp _=>cases h1
  |os _ _ _=>cases h1
  |bm _ _=>cases h1
  |fn f caps=>cases caps with|nil=>simp[SV.pts]at ho|cons a r=>cases h1
  |_=>simp[SV.pts]at ho
 lent p hp:=⟨hm p hp,fun o y i h=>by simp[aj]at h⟩
 moved p hp o y i h:=by simp[aj]at h
section
variable {P : Program} {R : Option Nat} {Φ : Exit → Cx → St → Prop} {k : List It} {C : Cx} {s : St}
end
end Go.Ck
namespace Go.Ck
section
variable {P : Program} {R : Option Nat} {Φ : Exit → Cx → St → Prop} {k : List It} {C : Cx} {s : St}
theorem AW.freeze{e:Exit}{p:Place}{q:PV}{s':St}(hf:freeze P s (.al p)=some (q,s'))(h:AW P R Φ e k C s'):AW P R Φ e k C s:=
 wb (fun B a w ha=>by
  obtain⟨hd,E,hE⟩:=ha;obtain⟨E',_,hE',_⟩:=xg hE hf (.al p);exact⟨B,hd,E',hE'⟩) h
theorem Yf{e:Exit}{d:Nat}{t:TypeId}(hl:aj d s.sl=some .nils)(h:AW P R Φ e k C (setSlot d (.own t []) s)):AW P R Φ e k C s:=
 wb (fun B a w ha=>by
  obtain⟨hd,E,hE⟩:=ha;obtain⟨x,hx,hv⟩:=hE.place (.slot d) _ hl;have hv':RS P (fun b=>E.om b∨B.F b) E w .nils x:=hv
  cases hv'
  have:=hE.recast (p:= .slot d) (v:= .own t []) (y:= .slice none 0 0) (x:= .slice none 0 0) hl rfl rfl (hE.free_of (fun e' xs he=>by simp only[St.at]at he;rw[hl]at he;cases he)) rfl hx (.inr rfl)
   (by simp only[ip,ci];exact⟨trivial,⟨[],World.ownsRow_nil w 0 _ _,iu.nil _ _,by simp,by simp⟩,by simp[Value.ownBlock]⟩) (by simp[SV.on]) (fun _ b hb=>by simp[Value.ownBlock]at hb) (by simp[SV.pts])
  exact⟨B,hd,_,this⟩) h
def Vk:SV→Bool
 | .pv (.sl z _)=>z !=0
 | .nils| .al _=>true
 | .vw _ _ _ _=>true
 |_=>false
theorem ac6{O0:Base}{F:Nat→Prop}{w0 w:World}{E:Env}{tmps:Array Value}(h:Rel P O0 w0 F s E tmps w){v:SV}{xs:List PV}{x:Value}(hs:Vk v=true)(hc:cont s v=some xs)(hr:RS P (fun b=>E.om b∨F b) E w v x):
  ∃a len cap,x= .slice a len cap∧(a=none→xs=[]):=by
 cases v<;>simp[Vk]at hs
 case pv p=>
  cases p<;>simp at hs
  rename_i z ys;simp only[cont]at hc;cases hc
  cases hr with|pv _ _ hr=> ?_
  obtain⟨vs,a,cap,rfl,h1,h2,h3,_⟩:=hr.slParts;refine⟨a,_,cap,rfl,fun ha=> ?_⟩
  cases xs with
  |nil=>rfl
  |cons y r=>
   have hl:vs.length=(y::r).length*z:=by rw[h1.1,i8 h3]
   have:0<vs.length:=by rw[hl,z09];exact Nat.mul_pos (by omega) (by omega)
   obtain⟨ad,e,_⟩:=h2 0 vs[0] (List.getElem?_eq_getElem this);rw[ha]at e;cases e
 case nils=>
  simp only[cont]at hc;cases hc
  cases hr
  exact⟨none,0,0,rfl,fun _=>rfl⟩
 case al p=>
  simp only[cont]at hc;split at hc
  ·rename_i e ys hp;cases hc
   rw[hr.al_inv];obtain⟨cs,h1,_⟩:=h.own hp;rcases h1.2 with⟨e1,h0⟩|⟨g,cap,cur,e1,_⟩
   ·exact⟨none,0,0,e1,fun _=>List.eq_nil_of_length_eq_zero h0⟩
   ·exact⟨_,_,cap,e1,fun h2=>by cases h2⟩
  ·cases hc
 case vw p e off n=>
  simp only[cont]at hc;split at hc
  ·split at hc<;>cases hc
   cases hr with|vw _ _ _ _ _ hv=> ?_
   obtain⟨_,a,cap,rfl,_,hb⟩:=hv;refine⟨a,n,cap,rfl,fun ha=> ?_⟩
   rcases Nat.eq_zero_or_pos n with h0|h0
   ·subst h0;simp
   ·obtain⟨b,_,h2⟩:=hb h0;rw[ha]at h2;cases h2
  ·cases hc
theorem Tj{all:Array Oper}{o:Oper}{r:List Oper}{x y:Operand}{t ty e ez eb d:Nat}{ea:Bool}{vx:SV}{xs:List PV}{op:BinOp}(hop:op= .eql∨op= .neq)(hg:o.guard=none)(ho:o.op= .binOp op t x y ty)(hd:o.dst=some d)(hT:tk P t= .sl e ez eb ea)
  (hx:ev s x=some vx) (hs:Vk vx=true) (hc:cont s vx=some xs) (hy:ev s y=some .nils)
  (h:∀b:Bool,(b=true→xs=[])→AW P R Φ .normal (.ops all r::k) C (put d (.pv (.bool (if op= .eql then b else !b))) s)):AW P R Φ .normal (.ops all (o::r)::k) C s:=fun B a w ha=>by
 simp only[mz];refine cb (by simp[Region.wanted,hg]) (fun c' hc'=>by rw[ho]at hc';cases hc') ?_
 obtain⟨hdf,E,hE⟩:=ha;obtain⟨ad,len,cap,e1,e2⟩:=ac6 hE hs hc (cq hE hx);have e3:a.eval y= .slice none 0 0:=by
  have:=cq hE hy;generalize a.eval y=z at this;cases this;rfl
 obtain⟨hu,_,_⟩:=p9 hT;have hrun:(execOp a.eval o).run P w= .ok (.value (.bool (if op= .eql then ad.isNone else !ad.isNone))) w:=by
  have hg:∀op,(eqGuard op t x y (.slice ad len cap) (.slice none 0 0)).run P w= .ok () w:=by
   intro op;unfold eqGuard;cases op<;>rfl
  have he:=run_equal_slice_nil (P:=P) (w:=w) t e ad len cap hu;rcases hop with rfl|rfl
  ·have hb:(binOp .eql t (.slice ad len cap) (.slice none 0 0)).run P w= .ok (.bool ad.isNone) w:=by
    show(do pure (.bool (←Op.equal t _ _)):Sem Value).run P w=_
    simp[he]
   simp only[execOp,ho,e1,e3,Sem.run_bind,hg,hb,Result.andThen_ok,Sem.run_pure,if_true]
  ·have hb:(binOp .neq t (.slice ad len cap) (.slice none 0 0)).run P w= .ok (.bool (!ad.isNone)) w:=by
    show(do pure (.bool (!(←Op.equal t _ _))):Sem Value).run P w=_
    simp[he]
   simp only[execOp,ho,e1,e3,Sem.run_bind,hg,hb,Result.andThen_ok,Sem.run_pure];simp
 rw[hrun,Oper.uponIn_value,hd];refine h ad.isNone (fun hb=>e2 (by simpa using hb)) B _ w ⟨by rw[cz];exact hdf,E, ?_⟩
 exact hE.putGood d (.pv _ _) (.pv _ _ (.bool _))
theorem bj{e:Exit}{q:PV}{s':St}(p:Place)(h:AW P R Φ e k C s')(hf:Ck.freeze P s (.al p)=some (q,s'):=by simp only[go_sem,↓reduceIte,freeze,G7]<;>rfl):AW P R Φ e k C s:=AW.freeze hf h
end
end Go.Ck
namespace Go.Ck
structure Cfg where
 e:Exit
 k:List It
 s:St
mutual
def ji(P:Program)(fl:Bool):Nat→Exit→List It→St→Cfg
 |0,e,k,s=>⟨e,k,s⟩
 |n+1,.normal,.code .skip::k,s=>ji P fl n .normal k s
 |n+1,.normal,.code (.seq x y)::k,s=>ji P fl n .normal (.code x:: .code y::k) s
 |n+1,.normal,.code (.block id c)::k,s=>ji P fl n .normal (.code c:: .inB id::k) s
 |n+1,.normal,.code (.exit id)::k,s=>ji P fl n (.exit id) k s
 |n+1,.normal,.code .ret::k,s=>ji P fl n .ret k s
 |n+1,.normal,.code (.label _)::k,s=>ji P fl n .normal k s
 |n+1,.normal,.code (.goto l)::k,s=>ji P fl n (.goto l) k s
 |n+1,.normal,.code (.region _ ops false)::k,s=>ji P fl n .normal (.ops ops ops.toList::k) s
 |n+1,.normal,.inB _::k,s=>ji P fl n .normal k s
 |n+1,.normal,.inS _ _::k,s=>ji P fl n .normal k s
 |n+1,.normal,.ops _ []::k,s=>ji P fl n .normal k s
 |n+1,.normal,.ops all (o::r)::k,s=>Kw P fl n all o r k s o.guard
 |n+1,.exit id,.inB id'::k,s=>if id=id' then ji P fl n .normal k s else ji P fl n (.exit id) k s
 |n+1,.exit id,.code _::k,s=>ji P fl n (.exit id) k s
 |n+1,.exit id,.stop _::k,s=>ji P fl n (.exit id) k s
 |n+1,.exit id,.inS _ _::k,s=>ji P fl n (.exit id) k s
 |n+1,.goto l,.code _::k,s=>ji P fl n (.goto l) k s
 |n+1,.goto l,.inB _::k,s=>ji P fl n (.goto l) k s
 |n+1,.goto l,.stop _::k,s=>ji P fl n (.goto l) k s
 |n+1,.ret,_::k,s=>ji P fl n .ret k s
 |_+1,e,k,s=>⟨e,k,s⟩
def Kw(P:Program)(fl:Bool):Nat→Array Oper→Oper→List Oper→List It→St→Option (Nat×Bool)→Cfg
 |0,all,o,r,k,s,_=>⟨.normal,.ops all (o::r)::k,s⟩
 |n+1,all,o,r,k,s,none=>D7 P fl n all o r k s (du P o s)
 |n+1,all,o,r,k,s,some (j,want)=>if fl=true then Gl P fl n all o r k s (ja all s j want) want else⟨.normal,.ops all (o::r)::k,s⟩
def Gl(P:Program)(fl:Bool):Nat→Array Oper→Oper→List Oper→List It→St→Option Bool→Bool→Cfg
 |n+1,all,o,r,k,s,some true,true=>D7 P fl n all o r k s (du P o s)
 |n+1,all,o,r,k,s,some false,false=>D7 P fl n all o r k s (du P o s)
 |n+1,all,o,r,k,s,some true,false=>Hh P fl n all o r k s o.dst
 |n+1,all,o,r,k,s,some false,true=>Hh P fl n all o r k s o.dst
 |_,all,o,r,k,s,_,_=>⟨.normal,.ops all (o::r)::k,s⟩
def Hh(P:Program)(fl:Bool):Nat→Array Oper→Oper→List Oper→List It→St→Option Nat→Cfg
 |n+1,all,o,r,k,s,some d=>ji P fl n .normal (.ops all r::k) (put d (.tup []) s)
 |_,all,o,r,k,s,_=>⟨.normal,.ops all (o::r)::k,s⟩
def D7(P:Program)(fl:Bool):Nat→Array Oper→Oper→List Oper→List It→St→Option St→Cfg
 |0,all,o,r,k,s,_=>⟨.normal,.ops all (o::r)::k,s⟩
 |n+1,all,o,r,k,s,some s'=>ji P fl n .normal (.ops all r::k) s'
 |_+1,all,o,r,k,s,none=>⟨.normal,.ops all (o::r)::k,s⟩
end
section
variable {P : Program} {fl : Bool} {R : Option Nat} {Φ : Exit → Cx → St → Prop} {C : Cx}
theorem akh{i:It}{k:List It}{s:St}(h:AW P R Φ .ret k C s):AW P R Φ .ret (i::k) C s:=fun B a w ha=>by
 cases i<;>exact h B a w ha
mutual
theorem cf:∀(n:Nat) {e:Exit} {k:List It} {s:St},AW P R Φ (ji P fl n e k s).e (ji P fl n e k s).k C (ji P fl n e k s).s→AW P R Φ e k C s
 |0,e,k,s,h=>h
 |n+1,e,k,s,h=>by
  unfold ji at h;split at h
  ·exact h
  ·exact AW.skip (cf _ h)
  ·exact AW.seq (cf _ h)
  ·exact AW.block (cf _ h)
  ·exact AW.exit (cf _ h)
  ·exact AW.ret (cf _ h)
  ·exact AW.label (cf _ h)
  ·exact AW.goto (cf _ h)
  ·exact AW.region (cf _ h)
  ·exact AW.inB (cf _ h)
  ·exact AW.inS (cf _ h)
  ·exact Nu (cf _ h)
  ·exact Wy _ h
  ·split at h
   ·rename_i he;subst he;exact aan (cf _ h)
   ·rename_i he;exact akg he (cf _ h)
  ·exact Td (by simp) (cf _ h)
  ·exact Tc (by simp) (cf _ h)
  ·exact aIk (cf _ h)
  ·exact Td (by simp) (cf _ h)
  ·exact aki (by simp) (cf _ h)
  ·exact Tc (by simp) (cf _ h)
  ·exact akh (cf _ h)
  ·exact h
theorem Wy:∀(n:Nat) {all:Array Oper} {o:Oper} {r:List Oper} {k:List It} {s:St},AW P R Φ (Kw P fl n all o r k s o.guard).e (Kw P fl n all o r k s o.guard).k C (Kw P fl n all o r k s o.guard).s→AW P R Φ .normal (.ops all (o::r)::k) C s
 |0,all,o,r,k,s,h=>h
 |n+1,all,o,r,k,s,h=>by
  cases hg:o.guard with
  |none=>
   rw[hg]at h;simp only[Kw]at h;exact Bj n (fun j want hj=>by rw[hg]at hj;cases hj) h
  |some g=>
   obtain⟨j,want⟩:=g;rw[hg]at h;simp only[Kw]at h;by_cases hf:fl=true
   ·rw[if_pos hf]at h;exact Wz n hg h
   ·rw[if_neg hf]at h;exact h
theorem Wz:∀(n:Nat) {all:Array Oper} {o:Oper} {r:List Oper} {k:List It} {s:St} {j:Nat} {want:Bool},o.guard=some (j,want)→AW P R Φ (Gl P fl n all o r k s (ja all s j want) want).e (Gl P fl n all o r k s (ja all s j want) want).k C (Gl P fl n all o r k s (ja all s j want) want).s→AW P R Φ .normal (.ops all (o::r)::k) C s
 |0,all,o,r,k,s,j,want,hg,h=>by
  simp only[Gl]at h;exact h
 |n+1,all,o,r,k,s,j,want,hg,h=>by
  cases hb:ja all s j want with
  |none=>
   rw[hb]at h;simp only[Gl]at h;exact h
  |some b=>
   rw[hb]at h;cases b<;>cases want<;>simp only[Gl]at h
   ·exact Bj n (fun j' want' hj=>by rw[hg]at hj;cases hj;exact hb) h
   ·exact Jx n hg hb h
   ·exact Jx n hg hb h
   ·exact Bj n (fun j' want' hj=>by rw[hg]at hj;cases hj;exact hb) h
theorem Jx:∀(n:Nat) {all:Array Oper} {o:Oper} {r:List Oper} {k:List It} {s:St} {j:Nat} {want:Bool},o.guard=some (j,want)→ja all s j want=some (!want)→AW P R Φ (Hh P fl n all o r k s o.dst).e (Hh P fl n all o r k s o.dst).k C (Hh P fl n all o r k s o.dst).s→AW P R Φ .normal (.ops all (o::r)::k) C s
 |0,all,o,r,k,s,j,want,hg,hb,h=>by
  simp only[Hh]at h;exact h
 |n+1,all,o,r,k,s,j,want,hg,hb,h=>by
  cases hd:o.dst with
  |none=>
   rw[hd]at h;simp only[Hh]at h;exact h
  |some d=>
   rw[hd]at h;simp only[Hh]at h;exact aey hg hd hb (cf n h)
theorem Bj:∀(n:Nat) {all:Array Oper} {o:Oper} {r:List Oper} {k:List It} {s:St},(∀j want,o.guard=some (j,want)→ja all s j want=some want)→AW P R Φ (D7 P fl n all o r k s (du P o s)).e (D7 P fl n all o r k s (du P o s)).k C (D7 P fl n all o r k s (du P o s)).s→AW P R Φ .normal (.ops all (o::r)::k) C s
 |0,all,o,r,k,s,hg,h=>h
 |n+1,all,o,r,k,s,hg,h=>by
  cases hs:du P o s with
  |none=>
   rw[hs]at h;simp only[D7]at h;exact h
  |some s'=>
   rw[hs]at h;simp only[D7]at h;cases hgd:o.guard with
   |none=>exact AW.step hgd hs (cf n h)
   |some g=>
    obtain⟨j,want⟩:=g;exact iq hgd (hg j want hgd) (AW.step rfl hs (cf n h))
end
theorem aig(n:Nat)(k:List It)(s:St):ji P fl (n+1) .normal (.code .skip::k) s=ji P fl n .normal k s:=rfl
theorem apf(n:Nat)(x y:Code)(k:List It)(s:St):ji P fl (n+1) .normal (.code (.seq x y)::k) s=ji P fl n .normal (.code x:: .code y::k) s:=rfl
theorem acy(n id:Nat)(c:Code)(k:List It)(s:St):ji P fl (n+1) .normal (.code (.block id c)::k) s=ji P fl n .normal (.code c:: .inB id::k) s:=rfl
theorem aij(n id:Nat)(k:List It)(s:St):ji P fl (n+1) .normal (.code (.exit id)::k) s=ji P fl n (.exit id) k s:=rfl
theorem apg(n:Nat)(k:List It)(s:St):ji P fl (n+1) .normal (.code .ret::k) s=ji P fl n .ret k s:=rfl
theorem Wx(n id:Nat)(ops:List Oper)(k:List It)(s:St):ji P fl (n+1) .normal (.code (.region id ops.toArray false)::k) s=ji P fl n .normal (.ops ops.toArray ops::k) s:=rfl
theorem apk(n id:Nat)(k:List It)(s:St):ji P fl (n+1) .normal (.inB id::k) s=ji P fl n .normal k s:=rfl
theorem api(n:Nat)(all:Array Oper)(k:List It)(s:St):ji P fl (n+1) .normal (.ops all []::k) s=ji P fl n .normal k s:=rfl
theorem aph(n:Nat)(all:Array Oper)(o:Oper)(r:List Oper)(k:List It)(s:St):ji P fl (n+1) .normal (.ops all (o::r)::k) s=Kw P fl n all o r k s o.guard:=rfl
theorem aAp(n id id':Nat)(k:List It)(s:St):ji P fl (n+1) (.exit id) (.inB id'::k) s=if id=id' then ji P fl n .normal k s else ji P fl n (.exit id) k s:=rfl
theorem aAo(n id:Nat)(c:Code)(k:List It)(s:St):ji P fl (n+1) (.exit id) (.code c::k) s=ji P fl n (.exit id) k s:=rfl
theorem aAm(n id:Nat)(K:Cx→St→Prop)(k:List It)(s:St):ji P fl (n+1) (.exit id) (.stop K::k) s=ji P fl n (.exit id) k s:=rfl
theorem aHb(n:Nat)(i:It)(k:List It)(s:St):ji P fl (n+1) .ret (i::k) s=ji P fl n .ret k s:=by cases i<;>rfl
theorem apl(n:Nat)(e:Exit)(s:St):ji P fl (n+1) e [] s=⟨e,[],s⟩:=by cases e<;>rfl
theorem ail(n:Nat)(c:Operand)(x y:Code)(k:List It)(s:St):ji P fl (n+1) .normal (.code (.cond c x y)::k) s=⟨.normal,.code (.cond c x y)::k,s⟩:=rfl
theorem aih(n:Nat)(c:Code)(k:List It)(s:St):ji P fl (n+1) .normal (.code (.loop c)::k) s=⟨.normal,.code (.loop c)::k,s⟩:=rfl
theorem K6(n:Nat)(g:Operand)(ps:Array Tmp)(x y:Code)(k:List It)(s:St):ji P fl (n+1) .normal (.code (.rangeFunc g ps x y)::k) s=⟨.normal,.code (.rangeFunc g ps x y)::k,s⟩:=rfl
theorem aii(n l:Nat)(k:List It)(s:St):ji P fl (n+1) .normal (.code (.goto l)::k) s=ji P fl n (.goto l) k s:=rfl
theorem acx(n l:Nat)(k:List It)(s:St):ji P fl (n+1) .normal (.code (.label l)::k) s=ji P fl n .normal k s:=rfl
theorem apj(n l:Nat)(K:Cx→St→Prop)(k:List It)(s:St):ji P fl (n+1) .normal (.inS l K::k) s=ji P fl n .normal k s:=rfl
theorem aAn(n id l:Nat)(K:Cx→St→Prop)(k:List It)(s:St):ji P fl (n+1) (.exit id) (.inS l K::k) s=ji P fl n (.exit id) k s:=rfl
theorem aAs(n l:Nat)(c:Code)(k:List It)(s:St):ji P fl (n+1) (.goto l) (.code c::k) s=ji P fl n (.goto l) k s:=rfl
theorem aAt(n l id:Nat)(k:List It)(s:St):ji P fl (n+1) (.goto l) (.inB id::k) s=ji P fl n (.goto l) k s:=rfl
theorem aAq(n l:Nat)(K:Cx→St→Prop)(k:List It)(s:St):ji P fl (n+1) (.goto l) (.stop K::k) s=ji P fl n (.goto l) k s:=rfl
theorem aAr(n l l':Nat)(K:Cx→St→Prop)(k:List It)(s:St):ji P fl (n+1) (.goto l) (.inS l' K::k) s=⟨.goto l,.inS l' K::k,s⟩:=rfl
theorem acw(n:Nat)(c:Code)(k:List It)(s:St):ji P fl (n+1) .normal (.code (.scope c)::k) s=⟨.normal,.code (.scope c)::k,s⟩:=rfl
theorem aik(n id:Nat)(ops:Array Oper)(k:List It)(s:St):ji P fl (n+1) .normal (.code (.region id ops true)::k) s=⟨.normal,.code (.region id ops true)::k,s⟩:=rfl
theorem aif(n:Nat)(K:Cx→St→Prop)(k:List It)(s:St):ji P fl (n+1) .normal (.stop K::k) s=⟨.normal,.stop K::k,s⟩:=rfl
theorem apm(n:Nat)(all:Array Oper)(f:Nat)(l:Array Bool)(k:List It)(s:St):ji P fl (n+1) .normal (.any all f l::k) s=⟨.normal,.any all f l::k,s⟩:=rfl
theorem ac3(n:Nat)(all:Array Oper)(o:Oper)(r:List Oper)(k:List It)(s:St):Kw P fl (n+1) all o r k s none=D7 P fl n all o r k s (du P o s):=rfl
theorem ac2(n:Nat)(all:Array Oper)(o:Oper)(r:List Oper)(k:List It)(s:St)(g:Nat×Bool):Kw P false (n+1) all o r k s (some g)=⟨.normal,.ops all (o::r)::k,s⟩:=rfl
theorem ac1(n:Nat)(all:Array Oper)(o:Oper)(r:List Oper)(k:List It)(s:St)(j:Nat)(want:Bool):Kw P true (n+1) all o r k s (some (j,want))=Gl P true n all o r k s (ja all s j want) want:=rfl
theorem apn(n:Nat)(all:Array Oper)(o:Oper)(r:List Oper)(k:List It)(s:St):Gl P fl (n+1) all o r k s (some true) true=D7 P fl n all o r k s (du P o s):=rfl
theorem apq(n:Nat)(all:Array Oper)(o:Oper)(r:List Oper)(k:List It)(s:St):Gl P fl (n+1) all o r k s (some false) false=D7 P fl n all o r k s (du P o s):=rfl
theorem apo(n:Nat)(all:Array Oper)(o:Oper)(r:List Oper)(k:List It)(s:St):Gl P fl (n+1) all o r k s (some true) false=Hh P fl n all o r k s o.dst:=rfl
theorem app(n:Nat)(all:Array Oper)(o:Oper)(r:List Oper)(k:List It)(s:St):Gl P fl (n+1) all o r k s (some false) true=Hh P fl n all o r k s o.dst:=rfl
theorem ac4(n:Nat)(all:Array Oper)(o:Oper)(r:List Oper)(k:List It)(s:St)(d:Nat):Hh P fl (n+1) all o r k s (some d)=ji P fl n .normal (.ops all r::k) (put d (.tup []) s):=rfl
theorem ac0(n:Nat)(all:Array Oper)(o:Oper)(r:List Oper)(k:List It)(s:St):D7 P fl (n+1) all o r k s none=⟨.normal,.ops all (o::r)::k,s⟩:=rfl
theorem acz(n:Nat)(all:Array Oper)(o:Oper)(r:List Oper)(k:List It)(s s':St):D7 P fl (n+1) all o r k s (some s')=ji P fl n .normal (.ops all r::k) s':=rfl
theorem aa{e e':Exit}{k k':List It}{s s':St}(h:AW P R Φ e' k' C s')(hn:ji P false 1000 e k s=⟨e',k',s'⟩:=by simp only[go_sem,↓reduceIte]<;>rfl):AW P R Φ e k C s:=by
 refine cf (fl:=false) 1000 ?_;rw[hn];exact h
theorem ak{e e':Exit}{k k':List It}{s s':St}(h:AW P R Φ e' k' C s')(hn:ji P true 1000 e k s=⟨e',k',s'⟩:=by simp only[go_sem,↓reduceIte]<;>rfl):AW P R Φ e k C s:=by
 refine cf (fl:=true) 1000 ?_;rw[hn];exact h
end
attribute [go_sem] ja ac1 apn apq apo app ac4 aig apf acy aij apg Wx apk api aph aAp aAo aAm aHb apl ail aih K6 aii acx apj aAn aAs aAt aAq aAr acw aik aif apm ac3 ac2 ac0 acz
end Go.Ck
namespace Go.Ck
def B8:SV→List Nat
 | .ptr o _=> [o]
 | .mp o=> [o]
 | .os o _ _=> [o]
 | .bm _ o=> [o]
 | .fn _ caps=>caps.filterMap fun| .ptr o _=>some o|_=>none
 |_=> []
theorem Mi{v:SV}{o:Nat}(h:v.pts o=true):o∈B8 v:=by
 cases v<;>simp[SV.pts]at h
 case os=>subst h;simp[B8]
 case bm=>subst h;simp[B8]
 ·subst h;simp[B8]
 ·rename_i f caps;obtain⟨c,hc,h1⟩:=h;simp only[B8,List.mem_filterMap];refine⟨c,hc, ?_⟩;cases c<;>simp at h1⊢
  exact h1
 ·subst h;simp[B8]
def Ih:SV→Option Place
 | .al p=>some p
 | .vw p _ _ _=>some p
 | .ea p _ _ _=>some p
 |_=>none
theorem Uk{v:SV}{p:Place}(h:v.on p=true):Ih v=some p:=by cases v<;>simp[SV.on]at h<;>subst h<;>rfl
def arv:SV→List SV
 | .tup vs=>vs
 |_=> []
def qh(ds os:List Nat)(v:SV):Bool:=((B8 v).all fun o=>os.contains o)&& (match Ih v with
 |some (.slot t)=>ds.contains t
 |some (.cell o _)=>os.contains o
 |_=>true)
def Hv(ds os:List Nat)(sl:List (Nat×SV)):List Nat→Bool
 |[]=>true
 |d::r=>(match aj d sl with
  |some v=>qh ds os v&& (arv v).all (qh ds os)
  |none=>true)&&Hv ds os sl r
def yd(ds os:List Nat)(hp:List (Nat×HO)):List Nat→Bool
 |[]=>true
 |o::r=>(match aj o hp with
  |some (.cells _ cs)=>cs.all (qh ds os)
  |_=>true)&&yd ds os hp r
def qf:List Nat→List (Nat×HO)→List (Nat×HO)
 |[],_=> []
 |d::r,sl=>match aj d sl with
  |some v=>(d,v)::qf r sl
  |none=>qf r sl
theorem jc(d:Nat)(sl:List (Nat×HO)):∀ds:List Nat,aj d (qf ds sl)=if d∈ds then aj d sl else none
 |[]=>by simp[qf,aj]
 |k::r=>by
  simp only[qf];split
  ·rename_i v hv;simp only[aj];by_cases h:k=d
   ·subst h;simp[hv]
   ·rw[if_neg h,jc d sl r];simp[Ne.symm h]
  ·rename_i hv;rw[jc d sl r];by_cases h:d=k
   ·subst h;simp[hv]
   ·simp[h]
def keepB(ds os:List Nat)(s:St):St:=⟨s.n,Hs ds s.sl,qf os s.hp⟩
def Q7(m:Nat)(os:List Nat):List (Nat×HO)→Bool
 |[]=>true
 |(o,_)::r=>(decide (o<m)||os.contains o)&&Q7 m os r
def qi(R:Option Nat)(ds os:List Nat)(s:St):Bool:=Hv ds os s.sl ds&&yd ds os s.hp os&&Q7 (lim R) os s.hp
theorem Bl{ds os:List Nat}{sl:List (Nat×SV)}:∀ {l:List Nat},Hv ds os sl l=true→∀d∈l,∀v,aj d sl=some v→qh ds os v=true∧∀u∈arv v,qh ds os u=true
 |[],_,d,hd,_,_=>by cases hd
 |k::r,h,d,hd,v,hv=>by
  simp only[Hv,z00]at h;rcases z03.1 hd with rfl|hd
  ·have h1:=h.1;rw[hv]at h1;simp only[z00,z01]at h1;exact h1
  ·exact Bl h.2 d hd v hv
theorem J2{ds os:List Nat}{hp:List (Nat×HO)}:∀ {l:List Nat},yd ds os hp l=true→∀o∈l,∀e cs,aj o hp=some (.cells e cs)→∀v∈cs,qh ds os v=true
 |[],_,d,hd,_,_,_,_,_=>by cases hd
 |k::r,h,d,hd,e,cs,hv,v,hm=>by
  simp only[yd,z00]at h;rcases z03.1 hd with rfl|hd
  ·have h1:=h.1;rw[hv]at h1;simp only[z01]at h1;exact h1 v hm
  ·exact J2 h.2 d hd e cs hv v hm
theorem Kl{m:Nat}{os:List Nat}:∀ {hp:List (Nat×HO)},Q7 m os hp=true→∀o y,aj o hp=some y→o<m∨o∈os
 |[],_,o,y,h=>by simp[aj]at h
 |(k,v)::r,hb,o,y,h=>by
  simp only[Q7,z00,z11,decide_eq_true_eq]at hb;simp only[aj]at h;split at h
  ·rename_i e;subst e
   exact hb.1.imp id (by simp)
  ·exact Kl hb.2 o y h
section
variable {P : Program} {O0 : Base} {F : Nat → Prop} {w0 w : World} {s : St} {E : Env} {tmps : Array Value}
theorem Rel.keepG(h:Rel P O0 w0 F s E tmps w)(ds os:List Nat)(hcs:Hv ds os s.sl ds=true)(hch:yd ds os s.hp os=true)(hob:∀o b,O0.ob o=some b→o∈os):Rel P O0 w0 F (Ck.keepB ds os s) E tmps w:=by
 have hsl:∀d v,aj d (Ck.keepB ds os s).sl=some v→d∈ds∧aj d s.sl=some v:=by
  intro d v hv;simp only[Ck.keepB]at hv;rw[wp]at hv;split at hv
  ·rename_i hm;exact⟨hm,hv⟩
  ·cases hv
 have hhp:∀o v,aj o (Ck.keepB ds os s).hp=some v→o∈os∧aj o s.hp=some v:=by
  intro d v hv;simp only[Ck.keepB]at hv;rw[jc]at hv;split at hv
  ·rename_i hm;exact⟨hm,hv⟩
  ·cases hv
 have hat:∀p v,(Ck.keepB ds os s).at p=some v→s.at p=some v∧(v.isTup=true∨qh ds os v=true):=by
  intro p v hp;cases p with
  |slot d=>
   obtain⟨h1,h2⟩:=hsl d v hp;exact⟨h2,.inr (Bl hcs d h1 v h2).1⟩
  |part d i=>
   simp only[St.at]at hp⊢;split at hp
   ·rename_i vs hvs;obtain⟨h1,h2⟩:=hsl d _ hvs;rw[h2];exact⟨hp,.inr ((Bl hcs d h1 _ h2).2 v (z08 hp))⟩
   ·cases hp
  |cell o i=>
   simp only[St.at]at hp⊢;split at hp
   ·rename_i e cs hvs;obtain⟨h1,h2⟩:=hhp o _ hvs;rw[h2];exact⟨hp,.inr (J2 hch o h1 e cs h2 v (z08 hp))⟩
   ·cases hp
 refine { place:=fun p v hp=> ?_,obj:=fun o y hy=>h.obj o y (hhp o y hy).2,size:=h.size,i1:=fun o o' y y' h1 h2=>h.i1 o o' y y' (hhp _ _ h1).2 (hhp _ _ h2).2,i2:=fun p q e xs e' ys b h1 h2=>h.i2 p q e xs e' ys b (hat p _ h1).1 (hat q _ h2).1,i3:=fun p e xs o y b h1 h2=>h.i3 p e xs o y b (hat p _ h1).1 (hhp _ _ h2).2,om_lt:=h.om_lt,om0:=h.om0,na:=fun p v q hp hq=> ?_,np:=fun p v o hp ho=> ?_,gr:=h.gr,flt:=h.flt,ob:=fun o b hb=> ?_ }
 ·exact h.place p v (hat p v hp).1
 ·obtain⟨h1,h2⟩:=hat p v hp;obtain⟨k1,⟨e,xs,k2⟩,k3⟩:=h.na p v q h1 hq;refine⟨k1,⟨e,xs, ?_⟩,k3⟩;rcases h2 with h2|h2
  ·cases v<;>simp[SV.isTup]at h2;simp[SV.on]at hq
  ·have hv:=Uk hq;simp only[qh,z00,hv]at h2;cases q with
   |slot t=>
    have:t∈ds:=by simpa using h2.2
    simp only[St.at,Ck.keepB];rw[wp,if_pos this];exact k2
   |part t i=>exact absurd rfl (k3 t i)
   |cell o i=>
    have:o∈os:=by simpa using h2.2
    simp only[St.at,Ck.keepB];rw[jc,if_pos this];exact k2
 ·obtain⟨h1,h2⟩:=hat p v hp;obtain⟨y,hy⟩:=h.np p v o h1 ho;refine⟨y, ?_⟩;rcases h2 with h2|h2
  ·cases v<;>simp[SV.isTup]at h2;simp[SV.pts]at ho
  ·simp only[qh,z00,z01]at h2;have:o∈os:=by simpa using h2.1 o (Mi ho)
   simp only[Ck.keepB];rw[jc,if_pos this];exact hy
 ·obtain⟨k1,y,hy⟩:=h.ob o b hb;refine⟨k1,y, ?_⟩;simp only[Ck.keepB];rw[jc,if_pos (hob o b hb)];exact hy
theorem Rel.keepB{R:Option Nat}(h:Rel P O0 w0 F s E tmps w)(h0:∀o,o<lim R→O0.ob o=none)(ds os:List Nat)(hc:qi R ds os s=true):Rel P O0 w0 F (Ck.keepB ds os s) E tmps w:=by
 simp only[qi,z00]at hc;obtain⟨⟨hcs,hch⟩,hcb⟩:=hc;refine h.keepG ds os hcs hch (fun o b hb=> ?_)
 obtain⟨_,y,hy⟩:=h.ob o b hb;rcases Kl hcb o y hy with h1|h1
 ·rw[h0 o h1]at hb;cases hb
 ·exact h1
end
section
variable {P : Program} {R : Option Nat} {Φ : Exit → Cx → St → Prop} {k : List It} {C : Cx} {s : St}
theorem AW.keepB{e:Exit}{s':St}(ds os:List Nat)(hc:qi R ds os s=true)(hs:Ck.keepB ds os s=s')(h:AW P R Φ e k C s'):AW P R Φ e k C s:=
 wb (fun B a w ha=>by
  obtain⟨hd,E,hE⟩:=ha;exact⟨B,hd,E,by rw[←hs];exact hE.keepB hd.2.1 ds os hc⟩) h
theorem aq{α:Type}{c:Code}(S:α→St)(J:α→Prop)(μ:α→Nat)(ds os:List Nat)(a0:α)(h0:J a0)
  (round:∀a,J a→∀K:Cx→St→Prop,(∀a' s',qi R ds os s'=true→Ck.keepB ds os s'=S a'→J a'→μ a'<μ a→K C s')→AW P R Φ .normal (.code c:: .stop K::k) C (S a)) (hc:qi R ds os s=true:=by simp only[go_sem,↓reduceIte]) (hs:Ck.keepB ds os s=S a0:=by simp only[go_sem,↓reduceIte]<;>rfl):AW P R Φ .normal (.code (.loop c)::k) C s:=by
 refine AW.keepB ds os hc hs ?_;refine AW.loop (n:=μ a0) (fun n s=> ∃a,n=μ a∧J a∧s=S a) ⟨a0,rfl,h0,rfl⟩ ?_
 rintro n s ⟨a,rfl,hJ,rfl⟩;intro B x w ha;have:=round a hJ (fun C' s'=>C'=C∧qi R ds os s'=true∧∃a',J a'∧μ a'<μ a∧Ck.keepB ds os s'=S a') (fun a' s' h1 h2 h3 h4=>⟨rfl,h1,a',h3,h4,h2⟩) B x w ha
 simp only[mz]at this⊢;refine wpIn_mono this (fun e x w hq=> ?_)
 cases e<;>simp only[mz]at hq⊢
 ·obtain⟨C',s',B',⟨rfl,hk,a',hJ',hlt,hs'⟩,hd,E,hE⟩:=hq;exact⟨C',S a',B',⟨rfl,μ a',hlt,a',rfl,hJ',rfl⟩,hd,E,by rw[←hs'];exact hE.keepB hd.2.1 ds os hk⟩
 all_goals exact hq
theorem pi{α:Type}{c:Code}(S:α→St)(J:α→Prop)(ds os:List Nat)
  (h:∀K:Cx→St→Prop,(∀a' s',qi R ds os s'=true→Ck.keepB ds os s'=S a'→J a'→K C s')→AW P R Φ .normal (.code c:: .stop K::k) C s)
  (hk:∀a,J a→AW P R Φ .normal k C (S a)):AW P R Φ .normal (.code c::k) C s:=by
 refine AW.join (fun C' s'=>C'=C∧qi R ds os s'=true∧∃a',J a'∧Ck.keepB ds os s'=S a') (h _ (fun a' s' h1 h2 h3=>⟨rfl,h1,a',h3,h2⟩)) ?_
 rintro C' s' ⟨rfl,h1,a',h3,h2⟩;exact AW.keepB ds os h1 h2 (hk a' h3)
theorem ah{α:Type}{S:α→St}{J:α→Prop}{μ:α→Nat}{ds os:List Nat}{K:Cx→St→Prop}{a:α}(hK:∀a' s',qi R ds os s'=true→Ck.keepB ds os s'=S a'→J a'→μ a'<μ a→K C s')(a':α)(hJ:J a')(hlt:μ a'<μ a)
 (hc:qi R ds os s=true:=by simp only[go_sem,↓reduceIte]) (hs:Ck.keepB ds os s=S a':=by simp only[go_sem,↓reduceIte]<;>rfl):AW P R Φ .normal (.stop K::k) C s:=AW.stop (hK a' s hc hs hJ hlt)
theorem jh{α:Type}{S:α→St}{J:α→Prop}{ds os:List Nat}{K:Cx→St→Prop}(hK:∀a' s',qi R ds os s'=true→Ck.keepB ds os s'=S a'→J a'→K C s')(a':α)(hJ:J a')
 (hc:qi R ds os s=true:=by simp only[go_sem,↓reduceIte]) (hs:Ck.keepB ds os s=S a':=by simp only[go_sem,↓reduceIte]<;>rfl):AW P R Φ .normal (.stop K::k) C s:=AW.stop (hK a' s hc hs hJ)
end
def Q6(svs:Option (List SV)):Option SV→Option (FuncId×List SV)
 |some (.fn f caps)=>(match svs with
  |some vs=>some (f,vs++caps)
  |none=>none)
 |_=>none
def callOp(s:St):Op→Option (FuncId×List SV)
 | .call c=>(match c.callee with
  | .value fx=>Q6 (evs s c.args.toList) (ev s fx)
  |_=>none)
 |_=>none
def HM(s:St)(ρ:Nat→Nat):List (Nat×HO)→Prop
 |[]=>True
 |(o,y)::r=>aj (ρ o) s.hp=some (y.ren ρ)∧HM s ρ r
def yj:List Nat→Bool
 |[]=>true
 |a::r=> !r.contains a&&yj r
def inL(ns:List Nat)(v:SV):Bool:=(B8 v).all fun o=>ns.contains o
def v6(ns:List Nat):List (Nat×HO)→Bool
 |[]=>true
 |(_,.cells _ cs)::r=>cs.all (inL ns)&&v6 ns r
 |_::r=>v6 ns r
def Ve(ns:List Nat):Place→Bool
 | .cell o _=> !ns.contains o
 | .part o _=> !ns.contains o
 |_=>true
def aC1(ns:List Nat):Option Place→Bool
 |some p=>Ve ns p
 |none=>true
def neM(p:Place):Option Place→Bool
 |some q=>decide (q≠p)
 |none=>true
def Hc(ρ:Nat→Nat)(H:List (Nat×HO))(args:List SV)(L:List Place)(m:Option Place):Bool:=
 yj ((bk H).map ρ)&&v6 (bk H) H&&args.all (inL (bk H))&&L.all (fun p=>neM p m&&Ve ((bk H).map ρ) p)&&aC1 ((bk H).map ρ) m
theorem aaj{s:St}{ρ:Nat→Nat}:∀ {H:List (Nat×HO)},HM s ρ H→∀o y,aj o H=some y→aj (ρ o) s.hp=some (y.ren ρ)
 |[],_,o,y,h=>by simp[aj]at h
 |(k,v)::r,hm,o,y,h=>by
  simp only[aj]at h;split at h
  ·rename_i e;subst e;cases h;exact hm.1
  ·exact aaj hm.2 o y h
theorem ko{ρ:Nat→Nat}:∀ {l:List Nat},yj (l.map ρ)=true→l.Nodup∧∀a∈l,∀b∈l,ρ a=ρ b→a=b
 |[],_=>⟨List.nodup_nil,fun a h=>by cases h⟩
 |a::r,h=>by
  simp only[z06,yj,z00,Bool.not_eq_true',List.contains_eq_mem,decide_eq_false_iff_not]at h;obtain⟨h0,h3⟩:=h;obtain⟨h1,h2⟩:=ko h3;refine⟨List.nodup_cons.2 ⟨fun hm=>h0 (z02.2 ⟨a,hm,rfl⟩),h1⟩,fun x hx y hy hxy=> ?_⟩
  rcases z03.1 hx with hx|hx<;>rcases z03.1 hy with hy|hy
  ·rw[hx,hy]
  ·rw[hx]at hxy;exact absurd (z02.2 ⟨y,hy,hxy.symm⟩) h0
  ·rw[hy]at hxy;exact absurd (z02.2 ⟨x,hx,hxy⟩) h0
  ·exact h2 x hx y hy hxy
theorem Sd{H:List (Nat×HO)}{v:SV}(h:inL (bk H) v=true){o:Nat}(ho:v.pts o=true):∃z,aj o H=some z:=by
 have:=z01.1 h o (Mi ho);exact ow (by simpa using this)
theorem D1{ns:List Nat}:∀ {H:List (Nat×HO)},v6 ns H=true→∀o y,aj o H=some y→∀c∈y.list,inL ns c=true
 |[],_,o,y,h=>by simp[aj]at h
 |(k,v)::r,hb,o,y,h=>by
  simp only[aj]at h;split at h
  ·rename_i e;subst e;cases h
   cases v with
   |cells e cs=>
    simp only[v6,z00,z01]at hb;exact hb.1
   |mp es=>intro c hc;simp[HO.list]at hc
  ·refine D1 (H:=r) ?_ o y h;cases v<;>simp only[v6,z00]at hb
   ·exact hb.2
   ·exact hb
theorem Mm{ns:List Nat}{p:Place}(h:Ve ns p=true){o i:Nat}(ho:o∈ns):p≠ .cell o i:=by
 rintro rfl;simp[Ve]at h;exact h ho
theorem Ww{ns:List Nat}{p:Place}(h:Ve ns p=true){o i:Nat}(ho:o∈ns):p≠ .part o i:=by
 rintro rfl;simp[Ve]at h;exact h ho
theorem me{H:List (Nat×HO)}{o:Nat}{y:HO}(h:aj o H=some y):o∈bk H:=z02.2 ⟨_,ib h,rfl⟩
theorem CallOK.ofB{s:St}{ρ:Nat→Nat}{H:List (Nat×HO)}{args:List SV}{L:List Place}{m:Option Place}(hM:HM s ρ H)(hB:Hc ρ H args L m=true):CallOK s ρ H args L m:=by
 simp only[Hc,z00,z01]at hB;obtain⟨⟨⟨⟨h1,h2⟩,h3⟩,h4⟩,h5⟩:=hB;obtain⟨k1,k2⟩:=ko h1;refine⟨aaj hM,fun o o' y y' hy hy' he=>k2 o (me hy) o' (me hy') he,fun o y c o' hy hc ho=>Sd (D1 h2 o y hy c hc) ho,fun c hc o ho=>Sd (h3 c hc) ho,fun p hp=>⟨?_,fun o y i hy=>⟨Mm (h4 p hp).2 (z02.2 ⟨o,me hy,rfl⟩),Ww (h4 p hp).2 (z02.2 ⟨o,me hy,rfl⟩)⟩⟩,fun p hm o y i hy=> ?_⟩
 ·have:=(h4 p hp).1;cases m with
  |none=>simp
  |some q=>simp only[neM,decide_eq_true_eq]at this;exact fun h=>this (Option.some.inj h)
 ·subst hm;exact Mm h5 (z02.2 ⟨o,me hy,rfl⟩)
def Ba(s:St)(ρ:Nat→Nat)(H:List (Nat×HO)):List (Nat×HO)→Bool
 |[]=>true
 |(o,_)::r=>(match aj o H with
  |some _=>true
  |none=>(match aj (ρ o) s.hp with|none=>true|some _=>false))&&Ba s ρ H r
theorem kw{s:St}{ρ:Nat→Nat}{H:List (Nat×HO)}:∀ {H':List (Nat×HO)},Ba s ρ H H'=true→∀o∈bk H',aj o H=none→aj (ρ o) s.hp=none
 |[],_,o,h,_=>by cases h
 |(k,v)::r,hb,o,h,hn=>by
  simp only[Ba,z00]at hb;simp only[bk,z06,z03]at h;rcases h with rfl|h
  ·have h1:=hb.1;rw[hn]at h1;simp only at h1;split at h1
   ·assumption
   ·cases h1
  ·exact kw hb.2 o h hn
def ar1:List Place→Bool
 |[]=>true
 |_=>false
def okA(s:St)(ρ:Nat→Nat)(H:List (Nat×HO))(L:List Place)(rs:List SV)(H':List (Nat×HO)):Bool:=
 rs.all yc&&yj ((bk H').map ρ)&&Ba s ρ H H'&& (ar1 L||(rs.all SV.clo&&H'.all (fun y=>y.2.clo)))
def sf(s:St)(ρ:Nat→Nat)(m:Option Place)(H:List (Nat×HO))(d:Nat)(rs:List SV)(H':List (Nat×HO)):St:=
 lh ρ d rs ⟨s.n,(b6 s ρ m H).sl,o9 ρ H' (b6 s ρ m H).hp⟩
section
variable {P : Program} {R : Option Nat} {Φ : Exit → Cx → St → Prop} {k : List It} {C : Cx} {s : St}
theorem akk{all:Array Oper}{o:Oper}{r:List Oper}{f:FuncId}{svs:List SV}{H:List (Nat×HO)}{args:List SV}{L:List Place}{m:Option Place}{Ψ:List SV→List (Nat×HO)→Prop}{d:Nat}(ρ:Nat→Nat)
  (hg:o.guard=none) (hd:o.dst=some d) (hc:callOp s o.op=some (f,svs)) (hF:Fn P f H args Ψ) (hP:Pass P s ρ svs args L m) (hM:HM s ρ H) (hB:Hc ρ H args L m=true)
  (hk:∀rs H',Ψ rs H'→okA s ρ H L rs H'=true∧AW P R Φ .normal (.ops all r::k) C (sf s ρ m H d rs H')):
  AW P R Φ .normal (.ops all (o::r)::k) C s:=by
 cases ho:o.op with
 |call c=>
  rw[ho]at hc;simp only[callOp]at hc;split at hc
  ·rename_i fx hcal;unfold Q6 at hc;split at hc
   ·rename_i g caps hfx;split at hc
    ·rename_i vs hvs;cases hc
     refine AW.call hg ho hd hcal hfx hvs hP (.ofB hM hB) hF (fun rs H' hΨ=> ?_)
     obtain⟨h1,h2⟩:=hk rs H' hΨ;simp only[okA,z00,z11]at h1;obtain⟨⟨⟨a1,a2⟩,a3⟩,a4⟩:=h1;obtain⟨b1,b2⟩:=ko a2;refine⟨a1,b1,b2,kw a3,a4.imp (fun h=> ?_) (fun h=>h),h2⟩
     cases L with
     |nil=>rfl
     |cons p r=>cases h
    ·cases hc
   ·cases hc
  ·cases hc
 |_=>rw[ho]at hc;simp[callOp]at hc
theorem av{all:Array Oper}{o:Oper}{r:List Oper}{f:FuncId}{svs:List SV}{H H':List (Nat×HO)}{args rs:List SV}{L:List Place}{m:Option Place}{d:Nat}{s':St}(ρ:Nat→Nat)
 (hF:Fn P f H args (fun rs' h=>rs'=rs∧h=H')) (hP:Pass P s ρ svs args L m) (h:AW P R Φ .normal (.ops all r::k) C s') (hg:o.guard=none:=by rfl) (hd:o.dst=some d:=by rfl) (hc:callOp s o.op=some (f,svs):=by simp only[go_sem,↓reduceIte]<;>rfl) (hM:HM s ρ H:=by simp only[go_sem,↓reduceIte]) (hB:Hc ρ H args L m=true:=by simp only[go_sem,↓reduceIte])
 (hA:okA s ρ H L rs H'=true:=by simp only[go_sem,↓reduceIte]) (hs:sf s ρ m H d rs H'=s':=by simp only[go_sem,↓reduceIte]<;>rfl):
 AW P R Φ .normal (.ops all (o::r)::k) C s:=akk ρ hg hd hc hF hP hM hB (fun rs' h' ⟨e1,e2⟩=>by subst e1;subst e2;exact⟨hA,by rw[hs];exact h⟩)
def ary(P:Program)(s:St)(t:TypeId):Option SV→Option SV
 |some (.ptr o off)=>aload (gq P t) s (.ptr o off)
 |_=>none
def ud(P:Program)(s:St):List ResultVar→Option (List SV)
 |[]=>some []
 | .tmp t::r=>(match ev s (.tmp t),ud P s r with|some v,some vs=>some (v::vs)|_,_=>none)
 | .cell b t::r=>(match ary P s t (ev s (.tmp b)),ud P s r with|some v,some vs=>some (v::vs)|_,_=>none)
theorem mv:∀ {l:List ResultVar} {svs:List SV},ud P s l=some svs→Rets P s l svs
 |[],svs,h=>by cases h;exact .nil
 | .tmp t::r,svs,h=>by
  simp only[ud]at h;split at h
  ·rename_i v vs h1 h2;cases h
   exact .tmp h1 (mv h2)
  ·cases h
 | .cell b t::r,svs,h=>by
  simp only[ud]at h;split at h
  ·rename_i v vs h1 h2;cases h
   unfold ary at h1;split at h1
   ·rename_i o off h3;exact .cell h3 h1 (mv h2)
   ·cases h1
  ·cases h
def Fu(H H':List (Nat×HO)):Bool:=H.all fun y=>match aj y.1 H' with|some _=>true|none=>false
theorem aCg{res:List ResultVar}{H H':List (Nat×HO)}{Ψ:List SV→List (Nat×HO)→Prop}{e:Exit}{svs rs:List SV}{L:List Place}{m:Option Place}(he:e= .normal∨e= .ret)(hv:ud P s res=some svs)(hP:Pass P s id svs rs L m)(hM:HM s id H')(hB:Hc id H' rs L m=true)
  (hn:Fu H H'=true) (hΨ:Ψ rs H'):AW P R (rq P res H Ψ C) e [] C s:=
 AW.nil ⟨rfl,he,svs,rs,H',L,m,mv hv,hP,.ofB hM hB,(fun o y hy=>by
  have:=z01.1 hn (o,y) (ib hy);simp only at this;split at this
  ·rename_i z hz;exact⟨z,hz⟩
  ·cases this),hΨ⟩
theorem ac{res:List ResultVar}{H H':List (Nat×HO)}{e:Exit}{svs rs rs':List SV}{L:List Place}{m:Option Place}(hP:Pass P s id svs rs' L m)(hr:rs'=rs)(he:e= .normal∨e= .ret:=by first|exact .inl rfl|exact .inr rfl)(hv:ud P s res=some svs:=by simp only[go_sem,↓reduceIte]<;>rfl)(hM:HM s id H':=by simp only[go_sem,↓reduceIte];try trivial)(hB:Hc id H' rs L m=true:=by simp only[go_sem,↓reduceIte])
  (hn:Fu H H'=true:=by simp only[go_sem,↓reduceIte]):AW P R (rq P res H (fun r h=>r=rs∧h=H') C) e [] C s:=by
 subst hr;exact aCg he hv hP hM hB hn ⟨rfl,rfl⟩
theorem bq{e:Exit}{s':St}(ds os:List Nat)(h:AW P R Φ e k C s')(hc:qi R ds os s=true:=by simp only[go_sem,↓reduceIte])(hs:Ck.keepB ds os s=s':=by simp only[go_sem,↓reduceIte]<;>rfl):AW P R Φ e k C s:=AW.keepB ds os hc hs h
theorem ap{all:Array Oper}{o:Oper}{r:List Oper}{f:FuncId}{svs:List SV}{H H':List (Nat×HO)}{args rs:List SV}{L:List Place}{m:Option Place}{d:Nat}{s':St}
 (hF:Fn P f H args (fun rs' h=>rs'=rs∧h=H')) (hP:Pass P s (fun _=>0) svs args L m) (h:AW P R Φ .normal (.ops all r::k) C s') (hg:o.guard=none:=by rfl) (hd:o.dst=some d:=by rfl) (hc:callOp s o.op=some (f,svs):=by simp only[go_sem,↓reduceIte]<;>rfl) (hM:HM s (fun _=>0) H:=by simp only[go_sem,↓reduceIte]) (hB:Hc (fun _=>0) H args L m=true:=by simp only[go_sem,↓reduceIte])
 (hA:okA s (fun _=>0) H L rs H'=true:=by simp only[go_sem,↓reduceIte]) (hs:sf s (fun _=>0) m H d rs H'=s':=by simp only[go_sem,↓reduceIte]<;>rfl):
 AW P R Φ .normal (.ops all (o::r)::k) C s:=av (fun _=>0) hF hP h hg hd hc hM hB hA hs
end
end Go.Ck
namespace Go.Ck
attribute [go_sem] List.replicate_zero List.replicate_succ List.singleton_append du reads Nz yi N4 aval ev aj ofConst c8 put clear setSlot SV.on evs evo lenT intO alen cont Lq Q0 Ym aindexAddr indexT aload raO Vb PV.cells
  kill Fs setObj cm xy St.at si zu putCells C3 N8 Eq N9 Il newObj uw kc Ce Ax m7 Ii G8 Pu Pt Ha TK.isSrc TK.isBool TK.isPtr Vg aun convT Y3 afg Q5 Yy afe aff eaO kr In oc H6 Ob sliceN Im G7 thaw Pf freeze setCells su ic Cm ak0 ak1 akw bstrO PV.one dr r9 As At
  callOp Q6 sf lh b6 mu killO Ig SV.onO iz o9 Yr bk SV.ren SV.ren1 HO.ren tg
  ary ud Ck.keepB Hs qf qi Hv yd qh Q7 lim B8 Ih arv
  z06 List.map_nil List.all_cons List.all_nil List.append_nil List.nil_append List.cons_append z07 List.getElem?_cons_succ List.getElem?_nil List.set_cons_zero List.set_cons_succ List.set_nil z09 List.length_nil List.take_zero List.drop_zero List.take_succ_cons List.drop_succ_cons List.take_nil List.drop_nil
  Nat.reduceAdd Nat.reduceSub Nat.reduceMul Nat.reduceEqDiff Nat.reduceLT Nat.reduceLeDiff Nat.reduceBEq Nat.reduceBNe reduceCtorEq Bool.false_eq_true Bool.and_true Bool.true_and Bool.or_true Bool.true_or Bool.false_or Bool.or_false Bool.and_false Bool.false_and Bool.not_true Bool.not_false
  Nat.succ_ne_self Nat.one_ne_zero Nat.zero_add Nat.add_zero Nat.zero_le Nat.le_refl Nat.zero_mul Nat.one_mul Nat.mul_one and_self and_true true_and and_false false_and not_false_eq_true not_true_eq_false ne_eq decide_true decide_false if_true if_false Place.slot.injEq Place.part.injEq Place.cell.injEq
  Int.toNat_natCast Int.reduceLT Int.reduceLE Int.reduceToNat Int.reduceAdd Int.reduceSub Int.reduceNeg Int.reduceEq Int.reduceBEq Int.reduceBNe Option.getD_some Option.getD_none Array.toList List.contains_nil List.filterMap_nil List.filterMap_cons List.contains_cons
end Go.Ck

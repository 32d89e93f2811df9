/- What is proved here: parts of the proofs of this seat's statements (a verified evaluator for calls over pure values, its laws, and contracts of functions). No condition. -/
import Derived.Test.YtmkoabmapmehdaaGreatDoorKd
set_option linter.all false
open List renaming getElem?_eq_getElem→z00,mem_of_getElem?→z01,getElem?_append_right→z02,getElem?_append_left→z03,getElem?_eq_some_iff→z04,getElem?_take→z05,mem_iff_getElem→z07,mem_or_eq_of_mem_set→z10,getElem?_map→z11,getElem?_drop→z13,append_assoc→z14,getElem?_set→z17,ext_getElem?→z18,all_eq_true→z20,mem_cons→z21
open Array renaming getElem?_setIfInBounds_ne→z06,getElem?_eq_getElem→z09,ext'→z15,getElem?_toList→z16,toList_map→z19
open Nat renaming mul_le_mul_right→z08,add_zero→z22,one_mul→z23,add_mul→z24
open Option renaming map_eq_some_iff→z12
namespace Go.Ck
open Go.RowKit
section
variable {P : Program} {O0 : Base} {F : Nat → Prop} {w0 w : World} {s : St} {E : Env} {tmps : Array Value}
theorem RS.congr{A:Nat→Prop}{E':Env}{v:SV}{y:Value}(ho:E'.obj=E.obj)(h:RS P A E w v y)(hh:∀q,v.on q=true→E'.hdr q=E.hdr q):RS P A E' w v y:=by
 induction h with
 |pv q y h=>exact .pv q y h
 |nils=>exact .nils
 |al q=>rw[←hh q (by simp[SV.on])];exact .al q
 |vw q e off n y h=>exact .vw q e off n y (by rw[hh q (by simp[SV.on])];exact h)
 |ptr o off=>rw[←ho];exact .ptr o off
 |ea q e i j b h=>exact .ea q e i j b (by rw[hh q (by simp[SV.on])];exact h)
 |ra c j vs ad hs h hm=>exact .ra c j vs ad hs h hm
 |fn f caps vs hl h1 h ih=>
  refine .fn f caps vs hl h1 (fun i c v hc hv=>ih i c v hc hv (fun q hq=> ?_))
  have h2:=z20.1 h1 c (z01 hc);cases c<;>simp[dr]at h2<;>simp[SV.on]at hq
 |agg cs vs hl h1 h ih=>
  refine .agg cs vs hl h1 (fun i c v hc hv=>ih i c v hc hv (fun q hq=> ?_))
  rw[(j3 h1 c (z01 hc)).2.1 q]at hq;cases hq
 |mp o=>rw[←ho];exact .mp o
 |yl l=>exact .yl l
 |bm f o=>rw[←ho];exact .bm f o
 |os o off n cap hc=>rw[←ho];exact .os o off n cap hc
 |lit xs g cur e fr h1 h2 h3=>exact .lit xs g cur e fr h1 h2 h3
theorem ip.congr{A:Nat→Prop}{E':Env}{p:Place}{v:SV}{y:Value}(ho:E'.obj=E.obj)(hom:E'.om=E.om)(h:ip P A E w p v y)(hh:∀q,v.on q=true→E'.hdr q=E.hdr q)(hp:E'.hdr p=E.hdr p):ip P A E' w p v y:=by
 cases v<;>simp only[ip]at h⊢
 case own e xs=>rw[hp,hom];exact h
 case tup vs=>exact h
 all_goals exact h.congr ho hh
theorem Rel.moveTup(h:Rel P O0 w0 F s E tmps w){t d:Nat}{vs:List SV}{x:Value}(hl:aj t s.sl=some (.tup vs))(hne:t≠d)(hd:d<s.n)(hf:Hj (.slot d) s)(hx:tmps[t]?=some x):
  ∃E',Rel P O0 w0 F (setSlot d (.tup vs) (setSlot t .dead s)) E' (tmps.setIfInBounds d x) w:=by
 have hsz:d<tmps.size:=by rw[←h.size];exact hd
 let H:Place→Value:=fun q=>match q with| .part d' i=>if d'=d then E.hdr (.part t i)else E.hdr q|q=>E.hdr q
 have hHs:∀d',H (.slot d')=E.hdr (.slot d'):=fun _=>rfl
 have hHp:∀i,H (.part d i)=E.hdr (.part t i):=fun i=>by simp[H]
 have hHq:∀d' i,d'≠d→H (.part d' i)=E.hdr (.part d' i):=fun d' i hn=>by simp[H,hn]
 have hHc:∀o i,H (.cell o i)=E.hdr (.cell o i):=fun _ _=>rfl
 have hHn:∀q,(∀i j,q≠ .part i j)→H q=E.hdr q:=by
  intro q hq;cases q with
  |slot d'=>rfl
  |part d' i=>exact absurd rfl (hq d' i)
  |cell o i=>rfl
 have hat:∀p u,(setSlot d (.tup vs) (setSlot t .dead s)).at p=some u→(p= .slot d∧u= .tup vs)∨(p= .slot t∧u= .dead)∨(∃i,p= .part d i∧vs[i]?=some u)∨(p≠ .slot d∧p≠ .slot t∧(∀i,p≠ .part d i)∧(∀i,p≠ .part t i)∧s.at p=some u):=by
  intro p u hp;rw[cj]at hp;cases p with
  |slot d'=>
   simp only at hp;split at hp
   ·rename_i e;subst e;simp at hp;exact .inl ⟨rfl,hp.symm⟩
   ·rename_i e;rw[cj]at hp;simp only at hp;split at hp
    ·rename_i e';subst e';simp at hp;exact .inr (.inl ⟨rfl,hp.symm⟩)
    ·rename_i e';exact .inr (.inr (.inr ⟨by simpa using fun h=>e h.symm,by simpa using fun h=>e' h.symm,by simp,by simp,hp⟩))
  |part d' i=>
   simp only at hp;split at hp
   ·rename_i e;subst e;exact .inr (.inr (.inl ⟨i,rfl,hp⟩))
   ·rename_i e;rw[cj]at hp;simp only at hp;split at hp
    ·cases hp
    ·rename_i e';exact .inr (.inr (.inr ⟨by simp,by simp,fun i=>by simpa using fun h=>absurd h.symm e,fun i=>by simpa using fun h=>absurd h.symm e',hp⟩))
  |cell o i=>
   rw[cj]at hp;exact .inr (.inr (.inr ⟨by simp,by simp,by simp,by simp,hp⟩))
 have hpt:∀ {i u},vs[i]?=some u→s.at (.part t i)=some u:=by
  intro i u hu;simp[St.at,hl,hu]
 have hkeep:∀q e xs,q≠ .slot d→(∀i j,q≠ .part i j)→s.at q=some (.own e xs)→(setSlot d (.tup vs) (setSlot t .dead s)).at q=some (.own e xs):=by
  intro q e xs h1 h2 h3;rw[cj];cases q with
  |slot d'=>
   simp only;rw[if_neg (by rintro rfl;exact h1 rfl),cj]
   simp only;split
   ·rename_i e';subst e'
    simp only[St.at]at h3;rw[hl]at h3;cases h3
   ·exact h3
  |part d' i=>exact absurd rfl (h2 d' i)
  |cell o i=>simp only;rw[cj];exact h3
 have hown:∀p e xs,(setSlot d (.tup vs) (setSlot t .dead s)).at p=some (.own e xs)→∃p',s.at p'=some (.own e xs)∧H p=E.hdr p'∧((p=p'∧(∀i,p≠ .part d i)∧∀i,p≠ .part t i)∨∃i,p= .part d i∧p'= .part t i):=by
  intro p e xs hp;rcases hat p _ hp with⟨_,h1⟩|⟨_,h1⟩|⟨i,rfl,h1⟩|⟨h1,h2,h3,h4,h5⟩
  ·cases h1
  ·cases h1
  ·exact⟨_,hpt h1,hHp i,.inr ⟨i,rfl,rfl⟩⟩
  ·refine⟨p,h5, ?_,.inl ⟨rfl,h3,h4⟩⟩;cases p with
   |slot d'=>rfl
   |part d' i=>exact hHq d' i (by rintro rfl;exact h3 i rfl)
   |cell o i=>rfl
 refine⟨{ E with hdr:=H },{ place:= ?_,obj:= ?_,size:=by simp[Ck.setSlot,h.size],i1:=h.i1,i2:= ?_,i3:= ?_,om_lt:=h.om_lt,om0:=h.om0,na:= ?_,np:= ?_,gr:=h.gr,flt:=h.flt,ob:=h.ob }⟩
 ·intro p v hp;rcases hat p v hp with⟨rfl,rfl⟩|⟨rfl,rfl⟩|⟨i,rfl,h1⟩|⟨h1,h2,h3,h4,h5⟩
  ·obtain⟨x',hx',hv⟩:=h.place (.slot t) _ hl;refine⟨x,by simp[CV,hsz], ?_⟩
   have:x'=x:=by simp only[CV]at hx';rw[hx]at hx';exact(Option.some.inj hx').symm
   subst this;exact hv
  ·obtain⟨x',hx',hv⟩:=h.place (.slot t) _ hl;exact⟨x',by simp only[CV]at hx'⊢;rw[z06 (Ne.symm hne)];exact hx',trivial⟩
  ·obtain⟨x',hx',hv⟩:=h.place _ _ (hpt h1);refine⟨x', ?_, ?_⟩
   ·simp only[CV]at hx'⊢;obtain⟨us,h6,h7⟩:=hx';rw[hx]at h6;cases h6
    exact⟨us,by simp[hsz],h7⟩
   ·have hon:∀q,v.on q=true→H q=E.hdr q:=fun q hq=>hHn q (h.na _ v q (hpt h1) hq).2.2
    cases v<;>simp only[ip]at hv⊢
    case own e xs=>rw[hHp];exact hv
    case tup us=>exact hv
    all_goals exact RS.congr (E:=E) rfl hv hon
  ·obtain⟨x',hx',hv⟩:=h.place p v h5;refine⟨x', ?_, ?_⟩
   ·cases p with
    |slot d'=>simp only[CV]at hx'⊢;rw[z06 (by rintro rfl;exact h1 rfl)];exact hx'
    |part d' i=>
     simp only[CV]at hx'⊢;obtain⟨us,h6,h7⟩:=hx';exact⟨us,by rw[z06 (by rintro rfl;exact h3 i rfl)];exact h6,h7⟩
    |cell o i=>exact hx'
   ·refine ip.congr (E:=E) (E':= { E with hdr:=H }) rfl rfl hv (fun q hq=>hHn q (h.na _ v q h5 hq).2.2) ?_
    cases p with
    |slot d'=>rfl
    |part d' i=>exact hHq d' i (by rintro rfl;exact h3 i rfl)
    |cell o i=>rfl
 ·intro o y hy;obtain⟨h1,h2⟩:=h.obj o y hy;refine⟨h1, ?_⟩;cases y<;>exact h2
 ·intro p q e xs e' ys b hp hq hpb hqb;obtain⟨p',h1,h2,h3⟩:=hown p e xs hp;obtain⟨q',h4,h5,h6⟩:=hown q e' ys hq;simp only at hpb hqb;rw[h2]at hpb;rw[h5]at hqb;have heq:=h.i2 p' q' e xs e' ys b h1 h4 hpb hqb;subst heq;rcases h3 with⟨rfl,k1,k2⟩|⟨i,rfl,rfl⟩
  ·rcases h6 with⟨rfl,_⟩|⟨j,rfl,k3⟩
   ·rfl
   ·exact absurd k3 (k2 j)
  ·rcases h6 with⟨k3,_,k4⟩|⟨j,rfl,k3⟩
   ·exact absurd k3 (k4 i)
   ·cases k3;rfl
 ·intro p e xs o y b hp hy hpb;obtain⟨p',h1,h2,h3⟩:=hown p e xs hp;simp only at hpb;rw[h2]at hpb;exact h.i3 p' e xs o y b h1 hy hpb
 ·intro p v q hp hq;have key:∀p',s.at p'=some v→((∃d,p'= .slot d)∧(∃e xs,(setSlot d (.tup vs) (setSlot t .dead s)).at q=some (.own e xs))∧∀d i,q≠ .part d i):=by
   intro p' hp';obtain⟨h6,⟨e,xs,h7⟩,h8⟩:=h.na p' v q hp' hq;refine⟨h6,⟨e,xs,hkeep q e xs ?_ h8 h7⟩,h8⟩;rintro rfl;rw[hf p' v hp']at hq;cases hq
  rcases hat p v hp with⟨rfl,rfl⟩|⟨rfl,rfl⟩|⟨i,rfl,h1⟩|⟨h1,h2,h3,h4,h5⟩
  ·simp[SV.on]at hq
  ·simp[SV.on]at hq
  ·obtain⟨⟨d',h6⟩,_⟩:=key _ (hpt h1);cases h6
  ·exact key p h5
 ·intro p v o hp ho;rcases hat p v hp with⟨rfl,rfl⟩|⟨rfl,rfl⟩|⟨i,rfl,h1⟩|⟨h1,h2,h3,h4,h5⟩
  ·simp[SV.pts]at ho
  ·simp[SV.pts]at ho
  ·exact h.np _ v o (hpt h1) ho
  ·exact h.np p v o h5 ho
end
end Go.Ck
namespace Go.Ck
open Go.RowKit
section
variable {P : Program} {O0 : Base} {F : Nat → Prop} {w0 w : World} {s : St} {E : Env} {tmps : Array Value}
theorem aAe(d:Nat)(v:SV)(s:St):(put d v s).hp=s.hp:=by
 unfold put;split
 ·show(Ck.clear d s).hp=s.hp;exact Di d s
 ·rfl
theorem Zl{d:Nat}{v:SV}{p:Place}{e:TypeId}{xs:List PV}(hne:p≠ .slot d)(hnp:∀i,p≠ .part d i)(h:s.at p=some (.own e xs)):(put d v s).at p=some (.own e xs):=by
 unfold put;split
 ·rw[cj];have:=Nd d s h;cases p with
  |slot d'=>simp only;rw[if_neg (by rintro rfl;exact hne rfl)];exact this
  |part d' i=>simp only;rw[if_neg (by rintro rfl;exact hnp i rfl)];exact this
  |cell o i=>exact this
 ·exact h
theorem Rel.putDead(h:Rel P O0 w0 F s E tmps w)(d:Nat)(x:Value):Rel P O0 w0 F (put d .dead s) E (tmps.setIfInBounds d x) w:=by
 unfold put;split
 ·rename_i hd;obtain⟨hc,hf⟩:=h.clear d;simp only[SV.on,Bool.false_eq_true,if_false];exact hc.setDead x (by rw[ti];exact hd) hf
 ·rename_i hd;rw[Array.setIfInBounds_eq_of_size_le (by rw[←h.size];omega)]
  exact h
theorem xf(h:Rel P O0 w0 F s E tmps w){d:Nat}{t:TypeId}{cs:List SV}{s':St}(hn:newObj d (.cells t cs) s=some s')(vs:Array Value)(hsz:vs.size=cs.length)
  (hc:∀(i:Nat) (c:SV),cs[i]?=some c→c.easy=true∧ue c=true∧(∀v,vs[i]?=some v→c= .dead∨RS P (fun b=>E.om b∨F b) E w c v)∧(∀q,c.on q=false)∧∀o,c.pts o=true→∃y,aj o s.hp=some y):
  ∃E',E'.hdr=E.hdr∧E'.obj d=w.heap.size∧s'=put d (.ptr d 0) ⟨s.n,s.sl,(d,.cells t cs)::s.hp⟩∧Rel P O0 w0 F s' E' (tmps.setIfInBounds d (.pointer (some ⟨w.heap.size,0,none⟩))) (w.alloc (.cells vs t)):=by
 unfold newObj at hn;split at hn<;>cases hn
 rename_i hl;have h1:=h.newObj hl (.cells t cs) (.cells vs t) ⟨vs,by rw[bz];exact heap_alloc_new w _,Nat.le_of_eq hsz.symm,fun c hc'=>by
   obtain⟨i,hi,he⟩:=z07.1 hc';exact(hc i c (by rw[←he];exact z00 hi)).2.1⟩
  (fun i c hic=>by
   obtain⟨k1,k2,k3,k4,k5⟩:=hc i c hic;have hi:i<vs.size:=by rw[hsz];exact(z04.1 hic).1
   refine⟨k1,⟨vs[i], ?_,k3 _ (z09 hi)⟩,k4,k5⟩;have:=World.cell?_alloc_new w vs t i;rw[this];exact z09 hi)
 refine⟨_, ?_, ?_,rfl,h1.putGood d ⟨rfl,by simp[SV.on],fun o ho=> ?_⟩ ?_⟩
 ·rfl
 ·exact bz _ _ _
 ·have:d=o:=by simpa[SV.pts]using ho
  subst this;exact⟨.cells t cs,by simp[aj]⟩
 ·have:=RS.ptr (P:=P) (A:=fun b=>(E.addObj d w.heap.size).om b∨F b) (E:=E.addObj d w.heap.size) (w:=w.alloc (.cells vs t)) d 0
  rwa [bz]at this
theorem P5{vs:List Value}{cs:List SV}(h:Da vs=some cs):vs.length=cs.length∧∀(i:Nat) (c:SV) (v:Value),cs[i]?=some c→vs[i]?=some v→ofConst v=some c:=by
 induction vs generalizing cs with
 |nil=>cases h;simp
 |cons v r ih=>
  unfold Da at h;split at h
  ·rename_i x xs hx hxs;cases h
   obtain⟨h1,h2⟩:=ih hxs;refine⟨by simp[h1],fun i c v' hc hv=> ?_⟩
   cases i with
   |zero=>simp at hc hv;subst hc;subst hv;exact hx
   |succ i=>exact h2 i c v' (by simpa using hc) (by simpa using hv)
  ·cases h
theorem zq{t:TypeId}{cs:List SV}(h:io P t=some cs):∃i z,P.info? t=some i∧i.zero=some z∧z.cells.size=i.size∧z.cells.size=cs.length∧∀(j:Nat) (c:SV) (v:Value),cs[j]?=some c→z.cells[j]?=some v→ofConst v=some c:=by
 unfold io at h;split at h
 ·rename_i i hi;split at h
  ·rename_i z hz;split at h
   ·rename_i hs;obtain⟨h1,h2⟩:=P5 h;exact⟨i,z,hi,hz,hs,by simpa using h1,fun j c v hc hv=>h2 j c v hc (by simpa using hv)⟩
   ·cases h
  ·cases h
 ·cases h
theorem wk(w:World)(t:TypeId)(v:Value):(newVar t v).run P w= .ok ⟨w.heap.size,0,none⟩ (w.alloc (.cells v.cells t)):=by
 simp[newVar,newRow]
theorem U0(h:Rel P O0 w0 F s E tmps w){d:Nat}{t:TypeId}{cs:List SV}{s':St}(hz:io P t=some cs)(hn:newObj d (.cells t cs) s=some s'):
  ∃v w' E',(Instr.alloc t true (.tuple #[])).run P w= .ok v w'∧Rel P O0 w0 F s' E' (tmps.setIfInBounds d v) w':=by
 obtain⟨i,z,hi,hiz,hs,hl,hc⟩:=zq hz;obtain⟨E',_,_,_,hE⟩:=xf h hn z.cells hl (fun j c hj=>by
  have hlt:j<z.cells.size:=by rw[hl];exact(z04.1 hj).1
  have h1:=hc j c _ hj (z09 hlt);obtain⟨g1,g2,g3,g4,g5⟩:=Dv (s:=s) h1;exact⟨g1.1,g3,fun v hv=> .inr (RS.ofConst (hc j c v hj hv)),g4,fun o ho=>by rw[g5 o]at ho;cases ho⟩)
 refine⟨_,_,E', ?_,hE⟩;simp[Instr.alloc,zeroValue,typeInfo,hi,hiz,wk]
theorem Fb(h:Rel P O0 w0 F s E tmps w){d:Nat}{t:TypeId}{cs:List SV}{s':St}(x:Value)(hn:newObj d (.cells t cs) s=some s')(hsz:x.cells.size=cs.length)
  (hc:∀(i:Nat) (c:SV),cs[i]?=some c→c.easy=true∧ue c=true∧(∀v,x.cells[i]?=some v→c= .dead∨RS P (fun b=>E.om b∨F b) E w c v)∧(∀q,c.on q=false)∧∀o,c.pts o=true→∃y,aj o s.hp=some y):
  ∃v w' E',(Instr.box t x).run P w= .ok v w'∧Rel P O0 w0 F s' E' (tmps.setIfInBounds d v) w':=by
 obtain⟨E',_,_,_,hE⟩:=xf h hn x.cells hsz hc;exact⟨_,_,E',by simp[Instr.box,wk],hE⟩
theorem Pq(h:Rel P O0 w0 F s E tmps w){d:Nat}{t:TypeId}{c:SV}{s':St}(x:Value)(hn:newObj d (.cells t [c]) s=some s')(hx:x.cells= #[x])(hg:mq s c)(h1:ue c=true)(hon:∀q,c.on q=false)(hr:RS P (fun b=>E.om b∨F b) E w c x):
  ∃v w' E',(Instr.box t x).run P w= .ok v w'∧Rel P O0 w0 F s' E' (tmps.setIfInBounds d v) w':=by
 refine Fb h x hn (by rw[hx];rfl) (fun i c' hi=> ?_)
 cases i with
 |zero=>
  simp at hi;subst hi;exact⟨hg.1,h1,fun v hv=>by rw[hx]at hv;simp at hv;subst hv;exact .inr hr,hon,hg.2.2⟩
 |succ i=>simp at hi
theorem aqh(h:Rel P O0 w0 F s E tmps w){d:Nat}{t:TypeId}{p:Place}{e:TypeId}{xs:List PV}{s':St}(hp:s.at p=some (.own e xs))(hpn:∀d i,p≠ .part d i)(hd:p≠ .slot d)(hn:newObj d (.cells t [.dead]) s=some s'):
  ∃v w' E',(Instr.box t (E.hdr p)).run P w= .ok v w'∧Rel P O0 w0 F (si p (.cell d 0) e xs s') E' (tmps.setIfInBounds d v) w':=by
 obtain⟨a,cap,hx,_⟩:=(h.own hp).form;have hx1:(E.hdr p).cells= #[E.hdr p]:=by rw[hx];rfl
 obtain⟨E',h1,h2,h3,hE⟩:=xf h hn (E.hdr p).cells (by rw[hx1];rfl) (fun i c' hi=>by
  cases i with
  |zero=>simp at hi;subst hi;exact⟨rfl,rfl,fun _ _=> .inl rfl,fun _=>rfl,fun o ho=>by simp[SV.pts]at ho⟩
  |succ i=>simp at hi)
 have hl:aj d s.hp=none:=by
  unfold Ck.newObj at hn;split at hn
  ·assumption
  ·cases hn
 have hpc:∀i,p≠ .cell d i:=by
  rintro i rfl;rw[cv,hl]at hp;cases hp
 have hp':s'.at p=some (.own e xs):=by
  rw[h3];refine Zl hd (fun i=>hpn d i) ?_
  cases p with
  |slot d'=>exact hp
  |part d' i=>exact hp
  |cell o i=>
   rw[cv]at hp⊢;simp only[aj];rw[if_neg (by rintro rfl;exact hpc i rfl)]
   exact hp
 have hq:s'.at (.cell d 0)=some .dead:=by
  rw[h3,cv,aAe];simp[aj,HO.list]
 obtain⟨E2,hE2⟩:=s4 hE (q:= .cell d 0) hp' hq rfl (fun h4=>hpc 0 h4.symm) (by
  simp only[CV,h2,h1];rw[hx1];have:=World.cell?_alloc_new w #[E.hdr p] t 0;rw[this];rfl) (by simp)
 exact⟨_,_,E2,by simp[Instr.box,wk],hE2⟩
end
end Go.Ck
namespace Go.Ck
open Go.RowKit
def CP(A:Nat→Prop)(w:World)(c:SV)(v:Value):Prop:=match c with
 | .pv p=>p.one=true∧RO A w p v
 | .nils=>v= .slice none 0 0
 |_=>False
def B6(A:Nat→Prop)(w:World)(cs:List SV)(vs:List Value):Prop:=
 vs.length=cs.length∧∀(i:Nat) (c:SV) (v:Value),cs[i]?=some c→vs[i]?=some v→CP A w c v
section
variable {A A' : Nat → Prop} {w : World}
theorem CP.sub(h:∀b,¬A b→¬A' b){c:SV}{v:Value}(hr:CP A w c v):CP A' w c v:=by
 cases c<;>simp only[CP]at hr⊢
 ·exact⟨hr.1,hr.2.sub h⟩
 ·exact hr
theorem B6.sub(h:∀b,¬A b→¬A' b){cs:List SV}{vs:List Value}(hr:B6 A w cs vs):B6 A' w cs vs:=
 ⟨hr.1,fun i c v hc hv=>(hr.2 i c v hc hv).sub h⟩
theorem B6.append{cs ds:List SV}{vs us:List Value}(h:B6 A w cs vs)(k:B6 A w ds us):B6 A w (cs++ds) (vs++us):=by
 refine⟨by simp[h.1,k.1],fun i c v hc hv=> ?_⟩
 by_cases hi:i<cs.length
 ·rw[z03 hi]at hc;rw[z03 (by rw[h.1];exact hi)]at hv
  exact h.2 i c v hc hv
 ·rw[z02 (by omega)]at hc
  rw[z02 (by rw[h.1];omega),h.1]at hv
  exact k.2 _ c v hc hv
theorem B6.drop{cs:List SV}{vs:List Value}(h:B6 A w cs vs)(n:Nat):B6 A w (cs.drop n) (vs.drop n):=by
 refine⟨by simp[h.1],fun i c v hc hv=> ?_⟩
 rw[z13]at hc hv;exact h.2 _ c v hc hv
theorem B6.take{cs:List SV}{vs:List Value}(h:B6 A w cs vs)(n:Nat):B6 A w (cs.take n) (vs.take n):=by
 refine⟨by simp[h.1],fun i c v hc hv=> ?_⟩
 rw[z05]at hc hv;split at hc
 ·rename_i hi;rw[if_pos hi]at hv;exact h.2 _ c v hc hv
 ·cases hc
theorem Fh{ps:List PV}{vs:List Value}(h:iu A w ps vs):B6 A w (ps.map .pv) vs:=by
 refine⟨by simp[h.1],fun i c v hc hv=> ?_⟩
 rw[z11,z12]at hc;obtain⟨p,hp,rfl⟩:=hc;exact⟨h.2.1 p (z01 hp),h.2.2 i p v hp hv⟩
theorem B6.plain{cs:List SV}{vs:List Value}(h:B6 A w cs vs):ic cs=true:=by
 induction cs generalizing vs with
 |nil=>rfl
 |cons c r ih=>
  cases vs with
  |nil=>have:=h.1;simp at this
  |cons v vs=>
   have h0:=h.2 0 c v rfl rfl;have h1:=ih (vs:=vs) ⟨by have:=h.1;simpa using this,fun i c' v' hc hv=>h.2 (i+1) c' v' (by simpa using hc) (by simpa using hv)⟩
   cases c<;>simp only[CP]at h0
   ·simp[ic,h0.1,h1]
   ·simp[ic,h1]
theorem CP.rs{P:Program}{E:Env}{c:SV}{v:Value}(h:CP A w c v):RS P A E w c v:=by
 cases c<;>simp only[CP]at h
 ·exact .pv _ _ h.2
 ·subst h;exact .nils
theorem zo{P:Program}{E:Env}{cs:List SV}(hp:ic cs=true){c:SV}(hc:c∈cs){v:Value}(h:RS P A E w c v):CP A w c v:=by
 induction cs with
 |nil=>cases hc
 |cons d r ih=>
  cases d<;>simp[ic]at hp
  ·rcases z21.1 hc with rfl|hc
   ·cases h with|pv _ _ h=>exact⟨hp.1,h⟩
   ·exact ih hp.2 hc
  ·rcases z21.1 hc with rfl|hc
   ·cases h;rfl
   ·exact ih hp hc
section
variable {P : Program} {O0 : Base} {F : Nat → Prop} {w0 : World} {s : St} {E : Env} {a : Act}
theorem Jw{c:Value}{v:SV}(h:ofConst c=some v):CP A w v c:=by
 unfold ofConst at h;split at h<;>cases h
 ·exact⟨rfl,.int _ _⟩
 ·exact⟨rfl,.bool _⟩
 ·rename_i l;have:(⟨l.data.toList.toArray⟩:ByteArray)=l:=by simp
  exact⟨rfl,by rw[←this];simpa using RO.str (A:=A) (w:=w) l.data.toList⟩
 ·rfl
 ·exact⟨rfl,.nilp⟩
 ·exact⟨rfl,.nilf⟩
 ·exact⟨rfl,.nili⟩
theorem Gt(h:Rel P O0 w0 F s E a.tmps w){v:SV}{x:Value}{new:List SV}{s':St}(hf:uw P s v=some (new,s'))(hr:RS P (fun b=>E.om b∨F b) E w v x):
  ∃E',(∀b,E'.om b→E.om b)∧Rel P O0 w0 F s' E' a.tmps w∧B6 (fun b=>E'.om b∨F b) w new x.cells.toList:=by
 unfold uw at hf;split at hf
 ·rename_i cs;cases hf
  cases hr with|agg _ vs hl h1 h2=> ?_
  refine⟨E,fun _ hb=>hb,h,by simpa[Value.cells]using hl,fun i c v hc hv=>zo h1 (z01 hc) (h2 i c v hc (by simpa[Value.cells]using hv))⟩
 ·cases hf
  cases hr
  refine⟨E,fun _ hb=>hb,h,rfl,fun i c v hc hv=> ?_⟩
  cases i with
  |zero=>simp[Value.cells]at hc hv;subst hc;subst hv;rfl
  |succ i=>simp at hc
 ·split at hf
  ·rename_i p s1 hfr;cases hf
   obtain⟨E1,h1,h2,h3⟩:=xg h hfr hr;exact⟨E1,h1,h2,Fh h3.cellsROs⟩
  ·cases hf
theorem p7{fs:List (Nat×Nat×Bool)}{place:Nat→Option (Nat×Nat)}(hpl:∀i f,fs[i]?=some f→place i=some (f.1,f.2.1)):∀(ps:List (Nat×Operand)) {cs:List SV} {s:St} {E:Env} {cells:Array Value} {cs':List SV} {s':St},Rel P O0 w0 F s E a.tmps w→kc P fs ps cs s=some (cs',s')→
  B6 (fun b=>E.om b∨F b) w cs cells.toList→
  ∃E' cells',Instr.fill place cells (ps.map fun(i,x)=>(i,a.eval x))=some cells'∧Rel P O0 w0 F s' E' a.tmps w∧B6 (fun b=>E'.om b∨F b) w cs' cells'.toList
 |[],cs,s,E,cells,cs',s',h,hf,hr=>by
  cases hf
  exact⟨E,cells,rfl,h,hr⟩
 |(i,x)::r,cs,s,E,cells,cs',s',h,hf,hr=>by
  unfold kc at hf;split at hf
  ·rename_i fo fz fa v hfs hv;split at hf
   ·rename_i new s1 hfr;split at hf
    ·rename_i hc;obtain⟨E1,hom,h1,hro⟩:=Gt h hfr (cq h hv);have hlen:cells.size=cs.length:=by simpa using hr.1
     have hsub:∀b,¬(E.om b∨F b)→¬(E1.om b∨F b):=fun b hn h6=>hn (h6.imp (hom b) id)
     have hxl:(a.eval x).cells.size=fz:=by have:=hro.1;simp only[Array.length_toList]at this;rw[this,hc.1]
     obtain⟨cells1,e1,e2⟩:=M4 (place:=place) (cells:=cells) (i:=i) (off:=fo) (size:=fz) (v:=a.eval x) (rest:=r.map fun(i,x)=>(i,a.eval x))
      (hpl _ _ hfs) hxl (by rw[hlen];exact hc.2)
     have hr1:B6 (fun b=>E1.om b∨F b) w (setCells cs new fo) cells1.toList:=by
      rw[e2,setCells,hc.1];exact(((hr.sub hsub).take _).append hro).append ((hr.sub hsub).drop _)
     obtain⟨E2,cells2,f1,f2,f3⟩:=p7 hpl r h1 hf hr1;exact⟨E2,cells2,by rw[List.map_cons];exact e1.trans f1,f2,f3⟩
    ·cases hf
   ·cases hf
  ·cases hf
theorem ack{fl:List Field}(h:∀f∈fl.map (ph P),f.2.1≠0):fl.mapM (fun f=>(P.info? f.type).map fun i=>(f.offset,i.size))=some ((fl.map (ph P)).map fun f=>(f.1,f.2.1)):=by
 induction fl with
 |nil=>rfl
 |cons f r ih=>
  have h0:=h (ph P f) (by simp)
  have hr:=ih (fun g hg=>h g (by simp at hg⊢;exact .inr hg))
  obtain⟨⟨fo,fz,fa⟩,hfr⟩:∃y,ph P f=y:=⟨_,rfl⟩
  rw[hfr]at h0;obtain⟨rfl,ht⟩:=n4 hfr h0;obtain⟨d,i,hu,hi,hs,_⟩:=ka (w:=default) ht;simp[List.mapM_cons,hi,hr,hfr,hs]
theorem Us(h:Rel P O0 w0 F s E a.tmps w){t:TypeId}{fs:List (Nat×Nat×Bool)}{z cs:List SV}{ps:Array (Nat×Operand)}{s':St}(d:Nat)(hT:tk P t= .st fs)(hz:io P t=some z)(hfs:fs.all (fun f=>f.2.1 !=0)=true)(hf:kc P fs ps.toList z s=some (cs,s')):
  ∃v w' E',(Instr.build t (ps.map fun(i,x)=>(i,a.eval x))).run P w= .ok v w'∧Rel P O0 w0 F (put d (Ce cs) s') E' (a.tmps.setIfInBounds d v) w':=by
 obtain⟨fl,hu,rfl⟩:=Li hT;obtain⟨i,zv,hi,hiz,hs,hl,hc⟩:=zq hz;obtain⟨E',cells',f1,f2,f3⟩:=p7 (place:=(((fl.toList.map (ph P)).map fun f=>(f.1,f.2.1)).toArray[·]?)) (fun i f hf=>by simp only[List.getElem?_toArray,z11]at hf⊢;rw[hf];rfl) ps.toList h hf (cells:=zv.cells) ⟨by simpa using hl,fun j c v hj hv=>Jw (hc j c v hj (by simpa using hv))⟩
 have hpl:=ack (P:=P) (fl:=fl.toList) (fun f hf'=>by have:=z20.1 hfs f hf';simpa using this)
 refine⟨_,_,E',run_build w t _ cells' ?_, ?_⟩
 ·unfold Program.built;rw[hi,hu];simp only[hiz,hpl];rw[z19];exact f1
 ·unfold Ce;split
  ·rename_i qs hqs;obtain⟨g1,g2⟩:=Fg hqs;refine f2.putGood d (.pv _ _) (.pv _ _ (.agg qs cells' (by have:=f3.1;simp at this;omega) (fun c hc=> ?_) (fun j c v hj hv=> ?_)))
   ·obtain⟨j,hj,he⟩:=z07.1 hc;have h1:=g2 j c (by rw[←he];exact z00 hj)
    have hj':j<cells'.toList.length:=by rw[f3.1,←g1];exact hj
    have:=f3.2 j _ _ h1 (z00 hj');exact this.1
   ·exact(f3.2 j _ v (g2 j c hj) (by simpa using hv)).2
  ·refine f2.putGood d ⟨rfl,by simp[SV.on],by simp[SV.pts]⟩ ?_
   have:=RS.agg (P:=P) (E:=E') cs cells'.toList f3.1 f3.plain (fun j c v hj hv=>(f3.2 j c v hj hv).rs)
   simpa using this
theorem Kr(h:Rel P O0 w0 F s E a.tmps w){t n e ez:Nat}{ea:Bool}{z cs:List SV}{ps:Array (Nat×Operand)}{s':St}(d:Nat)(hT:tk P t= .arr n e ez ea)(hez:ez≠0)(hz:io P t=some z)(hf:kc P (Y2 ez n) ps.toList z s=some (cs,s')):
  ∃v w' E',(Instr.build t (ps.map fun(i,x)=>(i,a.eval x))).run P w= .ok v w'∧Rel P O0 w0 F (put d (Ce cs) s') E' (a.tmps.setIfInBounds d v) w':=by
 obtain⟨hu,hce⟩:=H3 hT;obtain⟨i,zv,hi,hiz,hs,hl,hc⟩:=zq hz;obtain⟨ie,hie,hies⟩:∃ie,P.info? e=some ie∧ie.size=ez:=by
  cases hie:P.info? e with
  |none=>simp[Program.cellsOf,hie]at hce;exact absurd hce.symm hez
  |some ie=>exact⟨ie,rfl,by simpa[Program.cellsOf,hie]using hce⟩
 obtain⟨E',cells',f1,f2,f3⟩:=p7 (place:=fun i=>some (i*ie.size,ie.size)) (fun i f hf=>by
   rw[Nq]at hf;split at hf
   ·cases hf;rw[hies]
   ·cases hf) ps.toList h hf (cells:=zv.cells) ⟨by simpa using hl,fun j c v hj hv=>Jw (hc j c v hj (by simpa using hv))⟩
 refine⟨_,_,E',run_build w t _ cells' ?_, ?_⟩
 ·unfold Program.built;rw[hi,hu];simp only[hiz,hie];rw[z19];exact f1
 ·unfold Ce;split
  ·rename_i qs hqs;obtain⟨g1,g2⟩:=Fg hqs;refine f2.putGood d (.pv _ _) (.pv _ _ (.agg qs cells' (by have:=f3.1;simp at this;omega) (fun c hc=> ?_) (fun j c v hj hv=> ?_)))
   ·obtain⟨j,hj,he⟩:=z07.1 hc;have h1:=g2 j c (by rw[←he];exact z00 hj)
    have hj':j<cells'.toList.length:=by rw[f3.1,←g1];exact hj
    have:=f3.2 j _ _ h1 (z00 hj');exact this.1
   ·exact(f3.2 j _ v (g2 j c hj) (by simpa using hv)).2
  ·refine f2.putGood d ⟨rfl,by simp[SV.on],by simp[SV.pts]⟩ ?_
   have:=RS.agg (P:=P) (E:=E') cs cells'.toList f3.1 f3.plain (fun j c v hj hv=>(f3.2 j c v hj hv).rs)
   simpa using this
end
end
end Go.Ck
namespace Go.Ck
open Go.RowKit
section
variable {P : Program} {O0 : Base} {F : Nat → Prop} {w0 w : World} {s : St} {E : Env} {a : Act}
theorem Pd{tmps:Array Value}{t:Nat}{x:Value}(h:tmps[t]?=some x):tmps.getD t undef=x:=by simp[Array.getD_eq_getD_getElem?,h]
theorem B3(h:Rel P O0 w0 F s E a.tmps w){o:Oper}{d:Nat}{s':St}(hv:N4 P s d o.type o.op=some s'):
  ∃x w' E',(execOp a.eval o).run P w= .ok (.value x) w'∧Rel P O0 w0 F s' E' (a.tmps.setIfInBounds d x) w':=by
 unfold execOp;unfold N4 at hv;split at hv
 ·
  rename_i x he;rw[he];split at hv
  ·rename_i t;split at hv
   ·rename_i vs hl;split at hv<;>cases hv
    rename_i hc;obtain⟨x,hx,_⟩:=h.place (.slot t) _ hl;obtain⟨h1,h2⟩:=h.clear d;have hl':aj t (Ck.clear d s).sl=some (.tup vs):=by
     unfold Ck.clear;split
     ·simp only[Ck.kill,kq,hl];rfl
     ·exact hl
    obtain⟨E',hE⟩:=h1.moveTup hl' hc.1 (by rw[ti];exact hc.2) h2 hx
    exact⟨x,w,E',by simp[Act.eval,Pd hx],hE⟩
   ·cases hv
  ·cases hv
 ·
  rename_i x he;rw[he];split at hv
  ·rename_i hx;split at hv
   ·rename_i e _ _ _ _;cases hv
    have hr:=cq h hx;obtain⟨E',hE⟩:=h.putOwn (e:=e) (xs:=[]) (x:= .slice none 0 0) d ⟨[],World.ownsRow_nil w 0 _ _,iu.nil _ _,by simp,by simp⟩ (by simp[Value.ownBlock])
    refine⟨_,w,E',rfl, ?_⟩;generalize a.eval x=xv at hr;cases hr
    exact hE
   ·cases hv
  ·rename_i t hx;split at hv
   ·rename_i t';split at hv
    ·rename_i hc;obtain⟨rfl,hne,hd⟩:=hc;split at hv
     ·rename_i e xs hl;cases hv
      obtain⟨x,hx',hx2,_⟩:=h.place (.slot t') _ hl;subst hx2;have h1:=h.putDead d (E.hdr (.slot t'));have hsz:d<a.tmps.size:=by rw[←h.size];exact hd
      have hds:(put d .dead s).at (.slot d)=some .dead:=by
       unfold put;rw[if_pos hd];simp[SV.on,cj]
      have hts:(put d .dead s).at (.slot t')=some (.own e xs):=Zl (by simpa using hne) (by simp) hl
      obtain⟨E',hE⟩:=s4 h1 (q:= .slot d) hts hds rfl (by simpa using Ne.symm hne) (by simp[CV,hsz]) (by simp)
      exact⟨_,w,E',by simp[Act.eval,Pd hx'],hE⟩
     ·cases hv
    ·cases hv
   ·cases hv
  ·cases hv
 ·
  rename_i x i he;rw[he];split at hv
  ·rename_i t;split at hv
   ·rename_i e xs hp;split at hv<;>cases hv
    obtain⟨h1,h2,h3,h4⟩:=h.take hp;obtain⟨vs,h5,h6⟩:=h1;obtain⟨E',hE⟩:=h4.putOwn d h2 h3;refine⟨_,w,E', ?_,hE⟩;simp[Act.eval,Pd h5,Instr.extract,h6]
   ·cases hv
  ·cases hv
 ·
  rename_i t he;rw[he];split at hv
  ·rename_i cs hz;obtain⟨v,w',E',h1,h2⟩:=U0 h hz hv;exact⟨v,w',E',by simp[h1],h2⟩
  ·cases hv
 ·
  rename_i t x he;rw[he];have key:(∃v w' E',(Instr.box t (a.eval x)).run P w= .ok v w'∧Rel P O0 w0 F s' E' (a.tmps.setIfInBounds d v) w')→∃x_1 w' E',Sem.run P (do let y←Instr.box t (a.eval x);pure (Next.value y)) w= .ok (.value x_1) w'∧Rel P O0 w0 F s' E' (a.tmps.setIfInBounds d x_1) w':=by
   rintro⟨v,w',E',h1,h2⟩;exact⟨v,w',E',by simp[h1],h2⟩
  refine key ?_;split at hv
  ·rename_i p hx;have hr:=cq h hx;have hg:=h.ev_good hx;split at hv
   ·rename_i e xs hp;split at hv
    ·cases hv
    ·rename_i hpd;split at hv<;>cases hv
     rename_i s1 hn;have:=aqh h hp (hg.2.1 p (by simp[SV.on])).2 hpd hn
     rwa [hr.al_inv]
   ·cases hv
  ·rename_i p hx;have hr:=lu h hx;have hc:=hr.cellsROs;refine Fb h _ hv (by have:=hc.1;simpa using this) (fun i c hi=> ?_)
   rw[z11,z12]at hi;obtain⟨q,hq,rfl⟩:=hi;exact⟨rfl,hc.2.1 q (z01 hq),fun v hv=> .inr (.pv _ _ (hc.2.2 i q v hq (by simpa using hv))),fun _=>rfl,fun o ho=>by simp[SV.pts]at ho⟩
  ·rename_i cs hx;have hr:=cq h hx;generalize hxv:a.eval x=xv at hr;cases hr with|agg _ vs hl h1 h2=> ?_
   refine Fb h _ hv (by simp[Value.cells,hl]) (fun i c hi=> ?_)
   obtain⟨k1,k2,k3,k4⟩:=j3 h1 c (z01 hi);exact⟨k3,k4,fun v hv=> .inr (h2 i c v hi (by simpa[Value.cells]using hv)),k2,fun o ho=>by rw[k1 o]at ho;cases ho⟩
  ·rename_i hx;have hr:=cq h hx;have hg:=h.ev_good hx;refine Pq h _ hv ?_ hg rfl (fun _=>rfl) hr
   generalize a.eval x=xv at hr;cases hr;rfl
  ·rename_i o off hx;have hr:=cq h hx;have hg:=h.ev_good hx;refine Pq h _ hv ?_ hg rfl (fun _=>rfl) hr
   generalize a.eval x=xv at hr;cases hr;rfl
  ·rename_i f caps hx;have hr:=cq h hx;have hg:=h.ev_good hx;refine Pq h _ hv ?_ hg rfl (fun _=>rfl) hr
   generalize a.eval x=xv at hr;cases hr;rfl
  ·cases hv
 ·
  rename_i t ps he;rw[he];split at hv
  ·rename_i fs z hT hz;split at hv
   ·rename_i hfs;split at hv<;>cases hv
    rename_i cs s1 hf;obtain⟨v,w',E',h1,h2⟩:=Us h d hT hz hfs hf;exact⟨v,w',E',by simp only[Sem.run_bind];rw[h1];rfl,h2⟩
   ·cases hv
  ·rename_i n e ez ea z hT hz;split at hv
   ·rename_i hez;split at hv<;>cases hv
    rename_i cs s1 hf;obtain⟨v,w',E',h1,h2⟩:=Kr h d hT hez hz hf;exact⟨v,w',E',by simp only[Sem.run_bind];rw[h1];rfl,h2⟩
   ·cases hv
  ·cases hv
 ·
  rename_i t n ps he;rw[he];split at hv
  ·rename_i e ez eb ea hT;split at hv
   ·rename_i z hz;split at hv
    ·rename_i hc;split at hv<;>cases hv
     rename_i xs s1 hf;obtain⟨v,w',E',h1,h2⟩:=Fl h d hT hz hc.1 hc.2.1 hc.2.2 hf;exact⟨v,w',E',by simp only[Sem.run_bind];rw[h1];rfl,h2⟩
    ·cases hv
   ·cases hv
  ·cases hv
 ·
  rename_i t l c he;rw[he];split at hv
  ·rename_i n m e ez eb ea hl hc hT;split at hv
   ·rename_i z hz;split at hv<;>cases hv
    rename_i hh;obtain⟨v,w',E',h1,h2⟩:=Gu h d hT hz hh.1 hh.2.1 hh.2.2.1 hh.2.2.2.1 hh.2.2.2.2;have e1:=(lu h hl).int_eq;have e2:=(lu h hc).int_eq;exact⟨v,w',E',by simp[e1,e2,h1],h2⟩
   ·cases hv
  ·cases hv
 ·
  rename_i f first caps he
  rw[he];split at hv
  ·rename_i g vs hfi hcs;split at hv<;>cases hv
   rename_i hh;obtain⟨h1,h2⟩:=lf h hcs;have hf0:first= #[]:=by apply z15;rw[hfi]
   subst hf0;refine⟨.func (.func g) #[] (caps.map a.eval),w,E,by simp[Instr.makeFunc],h.putGood d ⟨rfl,by simp[SV.on],fun o' ho=> ?_⟩ ?_⟩
   ·simp only[SV.pts,List.any_eq_true]at ho;obtain⟨c,hc,hco⟩:=ho;obtain⟨i,hi,he⟩:=z07.1 hc;have hi':i<caps.toList.length:=by rw[←h1];exact hi
    have hev:=h2 i _ c (z00 hi') (by rw[←he];exact z00 hi)
    have hg:=h.ev_good hev;cases c<;>simp at hco
    subst hco;exact hg.2.2 _ (by simp[SV.pts])
   ·have:=RS.fn (P:=P) (A:=fun b=>E.om b∨F b) (E:=E) (w:=w) g vs (caps.toList.map a.eval) (by simpa using h1.symm) hh (fun i c v hc hv'=>by
     rw[z11,z12]at hv';obtain⟨x,hx,rfl⟩:=hv';exact cq h (h2 i x c hx hc))
    have e:caps.map a.eval=(caps.toList.map a.eval).toArray:=by apply z15;simp
    rw[e];exact this
  ·cases hv
 ·
  rename_i t he;rw[he];split at hv
  ·rename_i hl;cases hv
   have h1:=h.newObj hl (.mp []) (.map #[] 0) ⟨#[],0,by rw[bz];exact heap_alloc_new w _,rfl,by simp⟩ (by simp[HO.list])
   have hrs:=RS.mp (P:=P) (A:=fun b=>(E.addObj d w.heap.size).om b∨F b) (E:=E.addObj d w.heap.size) (w:=w.alloc (.map #[] 0)) d
   rw[bz]at hrs;refine⟨_,_,_, ?_,h1.putGood d ⟨rfl,by simp[SV.on],fun o ho=> ?_⟩ hrs⟩
   ·simp[Instr.makeMap]
   ·have:d=o:=by simpa[SV.pts]using ho
    subst this;exact⟨.mp [],by simp[aj]⟩
  ·cases hv
 ·
  rename_i c he;rw[he];split at hv
  ·rename_i hc;split at hv
   ·rename_i x y t tx hvs hts;split at hv
    ·rename_i hsrc;obtain⟨h1,h2⟩:=lf h hvs
     match hcl:c.args.toList,h1 with
     |[x0,y0],_=>
      have e0:=cq h (h2 0 x0 _ (by rw[hcl];rfl) rfl)
      have e1:=cq h (h2 1 y0 _ (by rw[hcl];rfl) rfl)
      have hal:c.args= #[x0,y0]:=by apply z15;rw[hcl]
      have hat:c.argTypes= #[t,tx]:=by apply z15;rw[hts]
      obtain⟨v,w',E',h3,h4⟩:=Lc (ty:=o.type) h hsrc hv e0 e1;refine⟨v,w',E', ?_,h4⟩;simp[resolve,hc,invoke,builtin,hal,hat,h3]
    ·cases hv
   ·cases hv
  ·cases hv
 ·cases hv
end
end Go.Ck
namespace Go.Ck
open Go.RowKit
section
variable {P : Program} {O0 : Base} {F : Nat → Prop} {w0 w : World} {s : St} {E : Env} {tmps : Array Value}
theorem o5(w:World)(b o:Nat){ty:TypeId}{z:Nat}(hz:P.cellsOf ty=z)(h0:0<z)(v:Value)(hs:v.cells.size=z)(cur:Array Value)(e:TypeId)(hb:w.heap[b]?=some (.cells cur e (0,0)))(hle:o+z≤cur.size)(h1:∀u∈v.cells.toList,u.oneCell'=true):
  (Instr.storeAt ty (.pointer (some ⟨b,o,none⟩)) v).run P w= .ok () (w.setCells b o v.cells.toList):=by
 obtain⟨i,hi,hiz⟩:=fy (P:=P) (t:=ty) (by omega)
 have hst:=run_storeCells_cells (P:=P) b o v.cells.toList 0 w (fun j hj=>by
   simp at hj;simp[World.cell?,hb];omega) (fun j hj=>by simp[World.frozen?,hb]) h1
 simp only[z22]at hst;simp[Instr.storeAt,Instr.sureAddr,storeVar,sizeOf,typeInfo,hi,hiz,hz,hs,hst]
theorem Rel.writeOwn(h:Rel P O0 w0 F s E tmps w){p:Place}{e:TypeId}{xs ys:List PV}{b:Nat}{w':World}(hp:s.at p=some (.own e xs))(hb:(E.hdr p).ownBlock=some b)(hg:Grow (fun k=>k=b) w w')(hsz:w'.heap.size=w.heap.size)
  (ho:ki P (fun b=>E.om b∨F b) w' e (E.hdr p) ys):Rel P O0 w0 F (cm p (.own e ys) s) E tmps w':=by
 obtain⟨x0,hx0,hpe,_,hom⟩:=h.place p _ hp;have hbo:=hom b hb;have hA:∀k,k<w.heap.size→¬(E.om k∨F k)→¬(E.om k∨F k)∧w'.heap[k]?=w.heap[k]?:=fun k hk hn=>⟨hn,hg.block k hk (fun he=>hn (.inl (he▸hbo)))⟩
 have hlk:∀o z,aj o (cm p (.own e ys) s).hp=some z→∃z',aj o s.hp=some z':=by
  intro o z hz;rcases uk p _ s o z hz with h2|⟨e',cs,i,_,h2,_⟩
  ·exact⟨z,h2⟩
  ·exact⟨_,h2⟩
 have hobj:∀o y,aj o s.hp=some y→w'.heap[E.obj o]?=w.heap[E.obj o]?:=fun o y hl=>hg.block _ (h.om_lt _ (h.obj o y hl).1).1 (fun he=>h.i3 p e xs o y b hp hl hb he)
 have hcv:∀q x,(∃v,s.at q=some v)→CV E tmps w q x→CV E tmps w' q x:=by
  intro q x hq hc;cases q with
  |slot d=>exact hc
  |part d i=>exact hc
  |cell o i=>
   simp only[CV]at hc⊢;obtain⟨v,hv⟩:=hq;rw[cv]at hv;split at hv
   ·rename_i y hy;exact(World.cell?_of_block (w:=w) (a:=⟨E.obj o,i,none⟩) (hobj o y hy)).trans hc
   ·cases hv
 have hown:∀q e' zs,(cm p (.own e ys) s).at q=some (.own e' zs)→∃zs',s.at q=some (.own e' zs'):=by
  intro q e' zs hq;rcases m6 hp rfl rfl hq with⟨rfl,h2⟩|⟨_,h2⟩|⟨_,_,_,_,_,_,h2⟩
  ·cases h2;exact⟨xs,hp⟩
  ·exact⟨zs,h2⟩
  ·cases h2
 refine { place:= ?_,obj:= ?_,size:=(vt _ _ _).trans h.size,i1:= ?_,i2:= ?_,i3:= ?_,om_lt:=fun k hk=>by rw[hsz];exact h.om_lt k hk,om0:=h.om0,na:= ?_,np:= ?_,gr:= ?_,flt:=h.flt,ob:= ?_ }
 ·intro q v hq;rcases m6 hp rfl rfl hq with⟨rfl,rfl⟩|⟨hne,h2⟩|⟨d,i,vs,rfl,rfl,h2,rfl⟩
  ·exact⟨x0,hcv _ _ ⟨_,hp⟩ hx0,hpe,ho,hom⟩
  ·obtain⟨x,hx,hv⟩:=h.place q v h2;refine⟨x,hcv q x ⟨_,h2⟩ hx, ?_⟩;cases v<;>simp only[ip]at hv⊢
   case own e' zs=>
    obtain⟨k1,k2,k3⟩:=hv;refine⟨k1,k2.kept hA (fun k hk=>hg.block k (h.om_lt k (k3 k hk)).1 (fun he=> ?_)),k3⟩
    subst he;exact hne (h.i2 q p e' zs e xs k h2 hp hk hb)
   case tup us=>exact hv
   all_goals exact hv.grow hA
  ·obtain⟨x,hx,hv⟩:=h.place _ _ h2;refine⟨x,hx, ?_⟩;simp only[ip]at hv⊢;obtain⟨us,k1,k2⟩:=hv;exact⟨us,k1,by simp[k2]⟩
 ·intro o y hy;rcases uk p _ s o y hy with h2|⟨e',cs,i,rfl,h2,rfl⟩
  ·obtain⟨k1,k2⟩:=h.obj o y h2;refine⟨k1, ?_⟩;have hb':=hobj o y h2;cases y with
   |cells e' cs=>
    obtain⟨us,k3,k4⟩:=k2;exact⟨us,hb'.trans k3,k4⟩
   |mp es=>
    obtain⟨ms,c,k3,k4,k5⟩:=k2;exact⟨ms,c,hb'.trans k3,k4,fun i kv m hk hm=>⟨(k5 i kv m hk hm).1.mono hA,(k5 i kv m hk hm).2.mono hA⟩⟩
  ·obtain⟨k1,us,k2,k3,k4⟩:=h.obj o _ h2;refine⟨k1,us,(hobj o _ h2).trans k2,by simp[k3],fun c hc=> ?_⟩
   rcases z10 hc with hc|rfl
   ·exact k4 c hc
   ·rfl
 ·intro o o' y y' hy hy' he;obtain⟨z,hz⟩:=hlk o y hy;obtain⟨z',hz'⟩:=hlk o' y' hy';exact h.i1 o o' z z' hz hz' he
 ·intro q r e1 zs e2 us k hq hr hqk hrk;obtain⟨zs',h1⟩:=hown q e1 zs hq;obtain⟨us',h2⟩:=hown r e2 us hr;exact h.i2 q r e1 zs' e2 us' k h1 h2 hqk hrk
 ·intro q e1 zs o y k hq hy hqk;obtain⟨zs',h1⟩:=hown q e1 zs hq;obtain⟨z,hz⟩:=hlk o y hy;exact h.i3 q e1 zs' o z k h1 hz hqk
 ·intro q v r hq hr;rcases m6 hp rfl rfl hq with⟨rfl,rfl⟩|⟨hne,h2⟩|⟨d,i,vs,rfl,rfl,h2,rfl⟩
  ·simp[SV.on]at hr
  ·obtain⟨k1,⟨e',zs,k2⟩,k3⟩:=h.na q v r h2 hr;refine⟨k1, ?_,k3⟩;by_cases hrp:r=p
   ·subst hrp;exact⟨e,ys,Bh hp⟩
   ·exact⟨e',zs,wh hp rfl k2 hrp rfl⟩
  ·simp[SV.on]at hr
 ·intro q v o hq ho';rcases m6 hp rfl rfl hq with⟨rfl,rfl⟩|⟨hne,h2⟩|⟨d,i,vs,rfl,rfl,h2,rfl⟩
  ·simp[SV.pts]at ho'
  ·obtain⟨z,hz⟩:=h.np q v o h2 ho';exact uv _ _ _ o z hz
  ·simp[SV.pts]at ho'
 ·exact h.gr.trans hg (fun k hk=>by subst hk;exact h.om0 _ hbo)
 ·intro o k hok;obtain⟨h1,y,hy⟩:=h.ob o k hok;exact⟨h1,uv _ _ _ o y hy⟩
theorem K0(w:World)(b o:Nat)(vs:List Value):Grow (fun k=>k=b) w (w.setCells b o vs)∧(w.setCells b o vs).heap.size=w.heap.size:=by
 induction vs generalizing o w with
 |nil=>exact⟨nc _ _,rfl⟩
 |cons v r ih=>
  obtain⟨h1,h2⟩:=ih (w.setCell ⟨b,o,none⟩ v) (o+1);have h3:Grow (fun k=>k=b) w (w.setCell ⟨b,o,none⟩ v):=⟨rfl,rfl,rfl,by simp,fun k _ hk=>by rw[j0,if_neg hk]⟩
  exact⟨h3.trans h1 (fun k hk=> .inl hk),by rw[World.setCells,h2];simp⟩
end
end Go.Ck
namespace Go.Ck
open Go.RowKit
section
variable {P : Program} {O0 : Base} {F : Nat → Prop} {w0 w : World} {s : St} {E : Env} {tmps : Array Value}
theorem iu.splice{A:Nat→Prop}{cs new:List PV}{vs us:List Value}(h:iu A w cs vs)(k:iu A w new us)(off:Nat):iu A w (cs.take off++new++cs.drop (off+new.length)) (vs.take off++us++vs.drop (off+us.length)):=by
 rw[k.1];exact((h.take off).append k).append (h.drop _)
theorem Rel.spliceOwn(h:Rel P O0 w0 F s E tmps w){p:Place}{e:TypeId}{xs ys:List PV}{b off:Nat}{new:List PV}{us:List Value}(hp:s.at p=some (.own e xs))(hb:(E.hdr p).ownBlock=some b)
  (hn:iu (fun b=>E.om b∨F b) w new us) (hle:off+new.length≤xs.length*P.cellsOf e) (hfl:da ys=(da xs).take off++new++(da xs).drop (off+new.length)) (hyl:ys.length=xs.length) (hyz:∀y∈ys,y.cells.length=P.cellsOf e):
  Rel P O0 w0 F (cm p (.own e ys) s) E tmps (w.setCells b off us):=by
 obtain⟨hg,hsz⟩:=K0 w b off us;refine h.writeOwn hp hb hg hsz ?_;obtain⟨x0,hx0,hpe,⟨cs,h1,h2,h3,h4⟩,hom⟩:=h.place p _ hp;have hA:∀k,k<w.heap.size→¬(E.om k∨F k)→¬(E.om k∨F k)∧(w.setCells b off us).heap[k]?=w.heap[k]?:=fun k hk hn=>⟨hn,hg.block k hk (fun he=>hn (.inl (he▸hom b hb)))⟩
 rcases h1.2 with⟨e1,_⟩|⟨g,cap,cur,e1,hbg,hgb,hle',hcm,hcs,htake⟩
 ·rw[e1]at hb;cases hb
 ·have:g=b:=by rw[e1]at hb;simpa[Value.ownBlock]using hb
  subst this;obtain⟨cur',k1,k2,k3⟩:=oz g us off w cur e (0,0) hgb;have hlen:cs.length=xs.length*P.cellsOf e:=h1.1;have hul:=hn.1;refine⟨cs.take off++us++cs.drop (off+us.length),⟨?_,.inr ⟨g,cap,cur',by rw[e1,hyl],hbg,k1,by rw[hyl];exact hle',hcm,by rw[k2,hcs], ?_⟩⟩, ?_,hyz,by rw[hyl];exact h4⟩
  ·simp only[List.length_append,List.length_take,List.length_drop];rw[hyl];omega
  ·apply z18
   intro j;have hmul:xs.length*P.cellsOf e≤cap*P.cellsOf e:=z08 _ hle';rw[z05,hyl];by_cases hj:j<xs.length*P.cellsOf e
   ·rw[if_pos hj,z16,k3 j (by omega)]
    have hcur:cur[j]?=cs[j]?:=by rw[←htake,z05,if_pos hj,z16]
    by_cases h5:off≤j∧j<off+us.length
    ·rw[if_pos h5,z14,z02 (by simp;omega),z03 (by simp;omega)]
     congr 1
     simp;omega
    ·rw[if_neg h5,hcur];by_cases h6:j<off
     ·rw[z14,z03 (by simp;omega),z05,if_pos h6]
     ·rw[z02 (by simp;omega),z13]
      congr 1
      simp;omega
   ·rw[if_neg hj,List.getElem?_eq_none (by simp;omega)]
  ·rw[hfl,←hul];rw[show(da xs).drop (off+us.length)=(da xs).drop (off+new.length)by rw[hul]]
   exact(h2.mono hA).splice (hn.mono hA) off
theorem t7{c p:PV}{j:Nat}(hj:j<c.cells.length)(h1:p.one=true):(Cm c j p).cells=c.cells.set j p:=by
 have hp:p.cells=[p]:=by cases p<;>first|rfl|simp[PV.one]at h1
 cases c<;>simp only[Cm]
 case agg cs=>rfl
 all_goals
  have hj':j<1:=hj;have:j=0:=by omega
  subst this;rw[hp];rfl
theorem Wb{α:Type}(l:List α)(i:Nat)(v:α)(h:i<l.length):l.set i v=l.take i++[v]++l.drop (i+1):=by
 rw[List.set_eq_take_append_cons_drop,if_pos h];simp
theorem Qc{xs:List PV}{z i j:Nat}{c p:PV}(hz:∀x∈xs,x.cells.length=z)(hc:xs[i]?=some c)(hj:j<z)(h1:p.one=true):
  da (xs.set i (Cm c j p))=(da xs).take (i*z+j)++[p]++(da xs).drop (i*z+j+1):=by
 obtain⟨hi,he⟩:=z04.1 hc;have hcz:=hz c (z01 hc);have hlen:=i8 hz;have hmul:i*z+z≤xs.length*z:=by rw[show i*z+z=(i+1)*z by rw[z24,z23]];exact z08 _ hi
 rw[Ja hz hi (by rw[t7 (by omega) h1];simp[hcz]),t7 (by omega) h1,←Wb _ _ _ (by omega)]
 apply z18
 intro k;rw[z17];by_cases h5:k<i*z
 ·rw[z14,z03 (by simp;omega),z05,if_pos h5,if_neg (by omega)]
 ·by_cases h6:k<i*z+z
  ·rw[z03 (by simp;omega),z02 (by simp;omega),z17]
   have e1:k-(List.take (i*z) (da xs)).length=k-i*z:=by simp;omega
   rw[e1];by_cases h7:i*z+j=k
   ·rw[if_pos h7,if_pos (by omega),if_pos (by omega),if_pos (by omega)]
   ·rw[if_neg h7,if_neg (by omega),←Ph hz hc (k-i*z) (by omega)]
    congr 1;omega
  ·rw[z02 (by simp[hcz];omega),z13,if_neg (by omega)]
   congr 1
   simp[hcz];omega
theorem RS.ea_inv{A:Nat→Prop}{p:Place}{e i j:Nat}{x:Value}(h:RS P A E w (.ea p e i j) x):∃b,(E.hdr p).ownBlock=some b∧x= .pointer (some ⟨b,i*P.cellsOf e+j,none⟩):=by
 cases h with|ea _ _ _ _ b h=>exact⟨b,h,rfl⟩
theorem Py(h:Rel P O0 w0 F s E tmps w){p:Place}{e i j:Nat}{ty:TypeId}{v:SV}{s':St}{x y:Value}(hs:N9 s p e i j (gq P ty) v (s.at p)=some s')(hx:RS P (fun b=>E.om b∨F b) E w (.ea p e i j) x)(hy:RS P (fun b=>E.om b∨F b) E w v y):
  ∃w' E',(Instr.storeAt ty x y).run P w= .ok () w'∧Rel P O0 w0 F s' E' tmps w':=by
 obtain⟨b,hb,rfl⟩:=hx.ea_inv;cases hp:s.at p with
 |none=>rw[hp]at hs;cases hs
 |some u=>
  rw[hp]at hs;unfold N9 at hs;split at hs
  ·rename_i e' xs hu;cases hu
   split at hs
   ·rename_i hee;subst hee;split at hs
    ·rename_i q;cases hy with|pv _ _ hy=> ?_
     unfold Eq at hs;split at hs
     ·rename_i c hc;obtain⟨x0,hx0,hpe,⟨cs,h1,h2,h3,h4⟩,hom⟩:=h.place p _ hp;have hi:=(z04.1 hc).1;have hcz:=h3 c (z01 hc);have hmul:i*P.cellsOf e'+P.cellsOf e'≤xs.length*P.cellsOf e':=by rw[show i*P.cellsOf e'+P.cellsOf e'=(i+1)*P.cellsOf e' by rw[z24,z23]];exact z08 _ hi
      have hrow:∃cur:Array Value,w.heap[b]?=some (.cells cur e' (0,0))∧xs.length*P.cellsOf e'≤cur.size:=by
       rcases h1.2 with⟨e1,_⟩|⟨g,cap,cur,e1,hbg,hgb,hle',hcm,hcs,htake⟩
       ·rw[e1]at hb;cases hb
       ·have:g=b:=by rw[e1]at hb;simpa[Value.ownBlock]using hb
        subst this;exact⟨cur,hgb,by rw[hcs];exact z08 _ hle'⟩
      obtain⟨cur,hcur,hcsz⟩:=hrow;have hyc:=hy.cellsROs;split at hs
      ·rename_i n hT;split at hs<;>cases hs
       rename_i hh;obtain⟨rfl,hn1,hn2,hn3,hn0⟩:=hh;obtain⟨d',ii,hu,hi',hsz,_⟩:=ka (w:=w) hT;have htz:P.cellsOf ty=n:=by simp[Program.cellsOf,hi',hsz]
       refine⟨_,E,o5 w b _ htz hn0 y (by have:=hyc.1;simp at this;omega) cur e' hcur (by omega) hyc.oneCell, ?_⟩
       refine h.spliceOwn hp hb hyc (by omega) ?_ (by simp) (fun z hz=> ?_)
       ·rw[Ja h3 hi (by omega)]
        simp only[z22];rw[hn1,show P.cellsOf e'=n by omega]
       ·rcases z10 hz with hz|rfl
        ·exact h3 z hz
        ·omega
      ·rename_i hT;split at hs<;>cases hs
       rename_i hh;obtain⟨hj,ho⟩:=hh;obtain⟨d',ii,hu,hi',hsz,_⟩:=ka (w:=w) hT;have htz:P.cellsOf ty=1:=by simp[Program.cellsOf,hi',hsz]
       obtain⟨hc1,hc2⟩:=hy.cells_of_one ho;refine⟨_,E,o5 w b _ htz (by omega) y (by rw[hc1];rfl) cur e' hcur (by omega) hyc.oneCell, ?_⟩
       refine h.spliceOwn hp hb hyc (by rw[hc2];simp;omega) ?_ (by simp) (fun z hz=> ?_)
       ·rw[hc2];exact Qc h3 hc (by omega) ho
       ·rcases z10 hz with hz|rfl
        ·exact h3 z hz
        ·rw[t7 hj ho];simp[hcz]
      ·cases hs
     ·cases hs
    ·cases hs
   ·cases hs
  ·cases hs
end
end Go.Ck

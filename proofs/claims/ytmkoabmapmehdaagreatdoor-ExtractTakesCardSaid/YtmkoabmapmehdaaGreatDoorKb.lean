/- What is proved here: parts of the proofs of this seat's statements (a verified evaluator for calls over pure values, its laws, and contracts of functions). No condition. -/
import Derived.Test.YtmkoabmapmehdaaGreatDoorKa
import Derived.Laws.Append
import Derived.ChangeKeysEq
import Derived.Laws.BytesArg
set_option linter.all false
open List renaming getElem?_drop→z00,getElem?_take→z01,getElem?_eq_some_iff→z02,getElem?_take_of_lt→z03,eq_nil_of_length_eq_zero→z05,getElem?_eq_getElem→z06,extract_eq_take_drop→z09,getElem?_eq_none→z10,mem_of_mem_take→z11,mem_of_mem_drop→z12,mem_of_getElem?→z13,getElem?_map→z15
open Nat renaming add_assoc→z04,pos_of_ne_zero→z08,add_mul→z16
open Array renaming ext'→z07
open Option renaming map_some→z14
namespace Go.Ck
open Go.RowKit
section
variable {P : Program} {w : World} {A : Nat → Prop} {E : Env}
theorem ka{t:TypeId}{z:Nat}{ag:Bool}(h:gq P t=some (z,ag)):∃d i,P.underlying t=some d∧P.info? t=some i∧i.size=z∧(isAgg t).run P w= .ok ag w:=by
 unfold gq at h;split at h<;>simp at h
 all_goals
  obtain⟨rfl,rfl⟩:=h;rename_i hu hi;refine⟨_,_,hu,hi,rfl, ?_⟩;simp[isAgg,run_underlying hu]
theorem gd(b o j:Nat):(⟨b,o,none⟩:Addr).add j=⟨b,o+j,none⟩:=by unfold Addr.add;split<;>simp_all
theorem qv{t:TypeId}{z:Nat}{ag:Bool}(h:gq P t=some (z,ag))(b o:Nat)(vs:List Value)(hl:vs.length=z)(hc:∀(j:Nat) (v:Value),vs[j]?=some v→w.cell? ⟨b,o+j,none⟩=some v)(hz:ag=false→z=1):
  (loadVar t ⟨b,o,none⟩).run P w= .ok (if ag then .agg vs.toArray else vs.headD undef) w:=by
 obtain⟨d,i,hu,hi,hs,hag⟩:=ka (w:=w) h;have hsz:(sizeOf t).run P w= .ok z w:=by rw[run_sizeOf w hi];simp[Program.cellsOf,hi,hs]
 have hload:=run_loadCells_list (P:=P) (w:=w) ⟨b,o,none⟩ vs (fun j v hv=>by rw[gd];exact hc j v hv)
 unfold loadVar;cases ag with
 |true=>
  simp only[Sem.run_bind,hag,Result.andThen_ok,if_true,hsz];rw[hl]at hload;simp[hload]
 |false=>
  have hz1:=hz rfl;subst hz1;obtain⟨v,rfl⟩:∃v,vs=[v]:=by
   match vs,hl with
   |[v],_=>exact⟨v,rfl⟩
  have:=hc 0 v (by simp)
  simp only[Nat.add_zero]at this;simp[hag,this]
theorem we{c r:PV}{j:Nat}{T:Option (Nat×Bool)}{vs:List Value}(h:Vb c j T=some r)(hr:iu A w c.cells vs):
  ∃z ag us,T=some (z,ag)∧(ag=false→z=1)∧us=(vs.drop j).take z∧us.length=z∧RO A w r (if ag then .agg us.toArray else us.headD undef):=by
 unfold Vb at h;split at h
 ·rename_i z;split at h<;>simp at h
  rename_i hz;subst h;have hd:=(hr.drop j).take z;refine⟨z,true,_,rfl,by simp,rfl,by simp[hr.1];omega, ?_⟩
  exact .agg _ _ (by simp[hr.1]) hd.2.1 (fun i c v hc hv=>hd.2.2 i c v hc (by simpa using hv))
 ·obtain⟨v,hv,hro⟩:=hr.at h;have:(vs.drop j).take 1=[v]:=by
   have hj:=(z02.1 hv);obtain⟨hj,he⟩:=hj;rw[List.drop_eq_getElem_cons hj,he];rfl
  refine⟨1,false,_,rfl,fun _=>rfl,rfl,by rw[this];rfl, ?_⟩
  rw[this];simpa using hro
 ·simp at h
theorem ki.cell{e:TypeId}{h:Value}{xs:List PV}{b:Nat}(ho:ki P A w e h xs)(hb:h.ownBlock=some b):
  ∃cs,iu A w (da xs) cs∧(∀x∈xs,x.cells.length=P.cellsOf e)∧∀(j:Nat) (v:Value),cs[j]?=some v→w.cell? ⟨b,j,none⟩=some v:=by
 obtain⟨cs,h1,h2,h3,h4⟩:=ho;refine⟨cs,h2,h3,fun j v hv=> ?_⟩
 have:=h1.cells hb j v hv
 rwa [gd,Nat.zero_add]at this
theorem ki.block{e:TypeId}{h:Value}{xs:List PV}(ho:ki P A w e h xs)(hx:0<xs.length):∃b cap,h= .slice (some ⟨b,0,none⟩) xs.length cap∧h.ownBlock=some b:=by
 obtain⟨cs,h1,h2,h3,h4⟩:=ho;rcases h1.2 with⟨rfl,h0⟩|⟨g,cap,cur,rfl,_⟩
 ·omega
 ·exact⟨g,cap,rfl,rfl⟩
theorem ki.form{e:TypeId}{h:Value}{xs:List PV}(ho:ki P A w e h xs):∃a cap,h= .slice a xs.length cap∧xs.length≤cap:=by
 obtain⟨cs,h1,h2,h3,h4⟩:=ho;rcases h1.2 with⟨rfl,h0⟩|⟨g,cap,cur,rfl,_⟩
 ·exact⟨none,0,by rw[h0],by omega⟩
 ·rename_i hh;exact⟨_,cap,rfl,hh.2.2.1⟩
theorem Ke{xs:List PV}{z i:Nat}{c:PV}{cs:List Value}(hz:∀x∈xs,x.cells.length=z)(hr:iu A w (da xs) cs)(hc:xs[i]?=some c):iu A w c.cells ((cs.drop (i*z)).take z):=by
 have hcz:c.cells.length=z:=hz c (z13 hc);have e:c.cells=((da xs).drop (i*z)).take z:=by
  apply List.ext_getElem?
  intro j;by_cases hj:j<z
  ·rw[z03 hj,z00,Ph hz hc j hj]
  ·rw[z10 (by omega),z10 (by simp;omega)]
 rw[e];exact(hr.drop _).take _
end
section
variable {P : Program} {O0 : Base} {F : Nat → Prop} {w0 w : World} {s : St} {E : Env} {tmps : Array Value}
theorem Rel.own(h:Rel P O0 w0 F s E tmps w){p:Place}{e:TypeId}{xs:List PV}(hp:s.at p=some (.own e xs)):ki P (fun b=>E.om b∨F b) w e (E.hdr p) xs:=by
 obtain⟨x,_,_,ho,_⟩:=h.place p _ hp;exact ho
theorem Fg{l:List SV}{ps:List PV}(h:Ax l=some ps):ps.length=l.length∧∀(i:Nat) (c:PV),ps[i]?=some c→l[i]?=some (.pv c):=by
 induction l generalizing ps with
 |nil=>simp[Ax]at h;subst h;simp
 |cons v r ih=>
  cases v<;>simp[Ax]at h
  rename_i p;split at h<;>simp at h
  rename_i qs hq;subst h;obtain⟨h1,h2⟩:=ih hq;refine⟨by simp[h1],fun i c hc=> ?_⟩
  cases i with
  |zero=>simpa using hc
  |succ i=>simpa using h2 i c (by simpa using hc)
theorem Rel.objCells(h:Rel P O0 w0 F s E tmps w){o:Nat}{e:TypeId}{cs:List SV}(hl:aj o s.hp=some (.cells e cs)):
  ∃vs:Array Value,w.heap[E.obj o]?=some (.cells vs e (0,0))∧cs.length≤vs.size∧(∀c∈cs,ue c=true)∧E.om (E.obj o)∧
   (∀j:Nat,w.cell? ⟨E.obj o,j,none⟩=vs[j]?)∧
   ∀(i:Nat) (u:SV),cs[i]?=some u→∃y,vs[i]?=some y∧ip P (fun b=>E.om b∨F b) E w (.cell o i) u y:=by
 obtain⟨hom,vs,hheap,hsz,h1⟩:=h.obj o _ hl;refine⟨vs,hheap,hsz,h1,hom,fun j=>by simp[World.cell?,hheap],fun i u hu=> ?_⟩
 obtain⟨y,hy,hp⟩:=h.place (.cell o i) u (by simp[St.at,hl,hu])
 exact⟨y,by simpa[CV,World.cell?,hheap]using hy,hp⟩
theorem Gf(h:Rel P O0 w0 F s E tmps w){t:TypeId}{v r:SV}{x:Value}(hv:aload (gq P t) s v=some r)(hx:RS P (fun b=>E.om b∨F b) E w v x):
  ∃y,(Instr.loadAt t x).run P w= .ok y w∧RS P (fun b=>E.om b∨F b) E w r y:=by
 cases hx<;>simp only[aload]at hv<;>try(simp at hv;done)
 case ptr o off=>
  unfold aff at hv;split at hv
  ·rename_i e cs hlk;obtain⟨vs,hheap,hsz,h1,hom,hcl,hcell⟩:=h.objCells hlk;split at hv
   ·rename_i z hT;split at hv
    ·rename_i hz;unfold afg at hv;split at hv<;>simp at hv
     rename_i ps hps;subst hv;obtain⟨hl,hg⟩:=Fg hps;have hl':ps.length=z:=by rw[hl];simp;omega
     have hlen:((vs.toList.drop off).take z).length=z:=by simp;omega
     have hone:∀(i:Nat) (c:PV),ps[i]?=some c→c.one=true∧∃y,vs[off+i]?=some y∧RO (fun b=>E.om b∨F b) w c y:=by
      intro i c hc;have h2:=hg i c hc;have hi:i<z:=by have:=(z02.1 hc).1;omega
      rw[z03 hi,z00]at h2;obtain⟨y,hy,hp⟩:=hcell _ _ h2;simp only[ip]at hp;have h3:=h1 _ (z13 h2);cases hp with
      |pv _ _ hp=>exact⟨h3,y,hy,hp⟩
     refine⟨.agg ((vs.toList.drop off).take z).toArray, ?_, ?_⟩
     ·simp only[Instr.loadAt,Instr.sureAddr,Sem.run_bind,Sem.run_pure,Result.andThen_ok];have:=qv (w:=w) hT (E.obj o) off ((vs.toList.drop off).take z) hlen (fun j u hu=>by
       rw[z01]at hu;split at hu
       ·rw[z00]at hu;rw[hcl];simpa using hu
       ·cases hu) (by simp)
      simpa using this
     ·refine .pv _ _ (.agg _ _ (by simp[hl'];omega) (fun c hc=> ?_) (fun i c u hc hu=> ?_))
      ·obtain⟨i,hi⟩:=List.getElem?_of_mem hc;exact(hone i c hi).1
      ·obtain⟨_,y,hy,hro⟩:=hone i c hc;have hi:i<z:=by have:=(z02.1 hc).1;omega
       have:u=y:=by
        have hu':((vs.toList.drop off).take z)[i]?=some u:=by simpa using hu
        rw[z03 hi,z00]at hu';have:vs[off+i]?=some u:=by simpa using hu'
        rw[hy]at this;simpa using this.symm
       rw[this];exact hro
    ·simp at hv
   ·rename_i hT;unfold Q5 at hv;have hgo:∀u y,cs[off]?=some u→vs[off]?=some y→(Instr.loadAt t (.pointer (some ⟨E.obj o,off,none⟩))).run P w= .ok y w:=by
     intro u y hu hy;simp only[Instr.loadAt,Instr.sureAddr,Sem.run_bind,Sem.run_pure,Result.andThen_ok];have:=qv (w:=w) hT (E.obj o) off [y] rfl (fun j v hv=>by
      cases j with
      |zero=>simp at hv;subst hv;rw[hcl];exact hy
      |succ j=>simp at hv) (fun _=>rfl)
     simpa using this
    cases hc:cs[off]? with
    |none=>rw[hc]at hv;simp at hv
    |some u=>
     rw[hc]at hv;obtain⟨y,hy,hp⟩:=hcell off u hc;refine⟨y,hgo u y hc hy, ?_⟩;cases u<;>simp at hv<;>subst hv<;>simp only[ip]at hp
     all_goals first
      |exact hp
      |(obtain⟨rfl,_⟩:=hp;exact .al _)
   ·simp at hv
  ·simp at hv
 case ea p e0 i j b hb=>
  unfold afe at hv;split at hv
  ·rename_i e xs hp;split at hv
   ·rename_i he;subst he;unfold Yy at hv;split at hv
    ·rename_i c hc;unfold Ym at hv;split at hv<;>simp at hv
     rename_i q hq;subst hv;obtain⟨cs,hro,hz,hcell⟩:=(h.own hp).cell hb;have hce:=Ke hz hro hc;obtain⟨n,ag,us,hT,h1,hus,hul,hr⟩:=we hq hce;refine⟨_, ?_,.pv _ _ hr⟩;simp only[Instr.loadAt,Instr.sureAddr,Sem.run_bind,Sem.run_pure,Result.andThen_ok];refine qv hT b (i*P.cellsOf e+j) us hul (fun k v hk=> ?_) h1
     rw[hus,z01]at hk;split at hk
     ·rw[z00,z01]at hk;split at hk
      ·rw[z00]at hk;have:=hcell _ _ hk;rw[←z04]at this;exact this
      ·cases hk
     ·cases hk
    ·simp at hv
   ·simp at hv
  ·simp at hv
 case ra c j vs ad hs hr hm=>
  unfold Ym at hv;split at hv<;>simp at hv
  rename_i q hq;subst hv;obtain⟨n,ag,us,hT,h1,hus,hul,hr'⟩:=we hq hr;refine⟨_, ?_,.pv _ _ hr'⟩;simp only[Instr.loadAt,Instr.sureAddr,Sem.run_bind,Sem.run_pure,Result.andThen_ok];refine qv hT ad.block (ad.off+j) us hul (fun k v hk=> ?_) h1
  rw[hus,z01]at hk;split at hk
  ·rw[z00]at hk;have:=(hm _ _ hk).2
   rwa [←z04]at this
  ·cases hk
end
end Go.Ck
namespace Go.Ck
open Go.RowKit
section
variable {P : Program} {O0 : Base} {F : Nat → Prop} {w0 w : World} {s : St} {E : Env} {tmps : Array Value}
theorem p9{t e ez eb:Nat}{ea:Bool}(h:tk P t= .sl e ez eb ea):P.underlying t=some (.slice e)∧P.cellsOf e=ez∧P.bytesOf e=eb:=by
 unfold tk at h;split at h<;>simp at h
 rename_i hu;obtain⟨rfl,rfl,rfl,rfl⟩:=h;exact⟨hu,rfl,rfl⟩
theorem H3{t n e ez:Nat}{ea:Bool}(h:tk P t= .arr n e ez ea):P.underlying t=some (.array n e)∧P.cellsOf e=ez:=by
 unfold tk at h;split at h<;>simp at h
 rename_i hu;obtain⟨rfl,rfl,rfl,rfl⟩:=h;exact⟨hu,rfl⟩
def ph(P:Program)(f:Field):Nat×Nat×Bool:=match gq P f.type with|some (z,ag)=>(f.offset,z,ag)|none=>(f.offset,0,false)
theorem n4{f:Field}{fo fz:Nat}{fa:Bool}(h:ph P f=(fo,fz,fa))(hz:fz≠0):fo=f.offset∧gq P f.type=some (fz,fa):=by
 unfold ph at h;split at h<;>simp at h
 ·rename_i z ag ht;obtain⟨rfl,rfl,rfl⟩:=h;exact⟨rfl,ht⟩
 ·omega
theorem Li{t:Nat}{fs:List (Nat×Nat×Bool)}(h:tk P t= .st fs):∃fl:Array Field,P.underlying t=some (.struct fl)∧fs=fl.toList.map (ph P):=by
 unfold tk at h;split at h<;>simp at h
 rename_i hu;exact⟨_,hu,h.symm⟩
theorem r5{t:Nat}{k:IntKind}(h:tk P t= .int k):P.underlying t=some (.int k):=by
 unfold tk at h;split at h<;>simp at h
 rename_i hu;subst h;exact hu
theorem rz{t:Nat}(h:tk P t= .str):P.underlying t=some .string:=by
 unfold tk at h;split at h<;>simp at h
 assumption
theorem fy{t:Nat}(h:0<P.cellsOf t):∃i,P.info? t=some i∧i.size=P.cellsOf t:=by
 unfold Program.cellsOf at h⊢;cases hi:P.info? t with
 |none=>rw[hi]at h;simp at h
 |some i=>exact⟨i,rfl,by simp⟩
theorem ab4{t:TypeId}{z:Nat}{ag:Bool}(h:gq P t=some (z,ag))(cs:Array Value)(o:Nat)(us:List Value)(hu:us=(cs.toList.drop o).take z)(hl:us.length=z)(hz:ag=false→z=1):
  (part t cs o).run P w= .ok (if ag then .agg us.toArray else us.headD undef) w:=by
 obtain⟨d,i,hud,hi,hs,hag⟩:=ka (w:=w) h;have hsz:(sizeOf t).run P w= .ok z w:=by rw[run_sizeOf w hi];simp[Program.cellsOf,hi,hs]
 unfold part;cases ag with
 |true=>
  simp only[Sem.run_bind,hag,Result.andThen_ok,if_true,hsz,Sem.run_pure]
  congr 2
  apply z07
  simp[hu,Array.toList_extract,z09]
 |false=>
  have hz1:=hz rfl;subst hz1;obtain⟨v,rfl⟩:∃v,us=[v]:=by
   match us,hl with
   |[v],_=>exact⟨v,rfl⟩
  have:cs[o]?=some v:=by
   have:((cs.toList.drop o).take 1)[0]?=some v:=by rw[←hu];rfl
   rw[z03 (by omega),z00]at this
   simpa using this
  simp[hag,this]
theorem Fo{t:TypeId}{v r:SV}{x:Value}{f:Nat}(hv:kr P t v f=some r)(hx:RS P (fun b=>E.om b∨F b) E w v x):
  ∃y,(Instr.fieldAt t x f).run P w= .ok y w∧RS P (fun b=>E.om b∨F b) E w r y:=by
 unfold kr at hv;split at hv
 ·rename_i fs hT;obtain⟨fl,hu,rfl⟩:=Li hT;split at hv
  ·rename_i fo fz fa hf;rw[z15]at hf;cases hfl:fl.toList[f]? with
   |none=>rw[hfl]at hf;simp at hf
   |some fd=>
    rw[hfl]at hf;simp only[z14,Option.some.injEq]at hf;have hfl':fl[f]?=some fd:=by simpa using hfl
    split at hv
    ·simp at hv
    ·rename_i hz;obtain⟨rfl,hts⟩:=n4 hf hz;obtain⟨d,i,hud,hi,his,_⟩:=ka (w:=w) hts;have hgo:∀b o,(Instr.fieldAt t (.pointer (some ⟨b,o,none⟩)) f).run P w= .ok (.pointer (some ⟨b,o+fd.offset,none⟩)) w:=by
      intro b o;have:P.cellsOf fd.type≠0:=by simp[Program.cellsOf,hi,his,hz]
      simp[Instr.fieldAt,run_underlying hu,hfl',Instr.sureAddr,fieldPlace,run_sizeOf w hi,this,gd]
     cases hx<;>simp at hv<;>subst hv
     ·exact⟨_,hgo _ _,.ptr _ _⟩
     ·exact⟨_,hgo _ _,by rw[z04];exact .ea _ _ _ _ _ ‹_›⟩
     ·exact⟨_,hgo _ _,by rw[z04];exact .ra _ _ _ _ ‹_› ‹_› ‹_›⟩
  ·simp at hv
 ·simp at hv
theorem Qo{t:TypeId}{v r:SV}{x:Value}{f:Nat}(hv:In P t v f=some r)(hx:RS P (fun b=>E.om b∨F b) E w v x):
  ∃y,(Instr.field t x f).run P w= .ok y w∧RS P (fun b=>E.om b∨F b) E w r y:=by
 unfold In at hv;split at hv
 ·rename_i fs hT;obtain⟨fl,hu,rfl⟩:=Li hT;split at hv
  ·rename_i fo fz fa hf;rw[z15]at hf;cases hfl:fl.toList[f]? with
   |none=>rw[hfl]at hf;simp at hf
   |some fd=>
    rw[hfl]at hf;simp only[z14,Option.some.injEq]at hf;have hfl':fl[f]?=some fd:=by simpa using hfl
    split at hv
    ·rename_i cs;split at hv
     ·simp at hv
     ·rename_i hz;obtain⟨rfl,hts⟩:=n4 hf hz;unfold Ym at hv;split at hv<;>simp at hv
      rename_i q hq;subst hv;cases hx with
      |pv _ _ hx=>
       have hce:=hx.cellsROs;obtain⟨n,ag,us,hT',h1,hus,hul,hr⟩:=we hq hce;simp only[Option.some.injEq,Prod.mk.injEq]at hT';obtain⟨rfl,rfl⟩:=hT';cases hx with
       |agg _ vs hl h2 hr'=>
        refine⟨_, ?_,.pv _ _ hr⟩;have:=ab4 (w:=w) hts vs fd.offset us hus hul h1;simp[Instr.field,run_underlying hu,hfl',asAgg,this]
    ·simp at hv
  ·simp at hv
 ·simp at hv
theorem abt{a:Addr}{v:Value}(h:w.cell? a=some v):a.spot=none:=by
 unfold World.cell? at h;split at h
 ·split at h
  ·cases h
  ·rename_i hs;cases hsp:a.spot with
   |none=>rfl
   |some q=>simp[hsp]at hs
 ·cases h
theorem zw{A:Nat→Prop}{a:Option Addr}{vs:List Value}(hm:∀(i:Nat) (v:Value),vs[i]?=some v→∃ad:Addr,a=some ad∧¬A ad.block∧w.cell? (ad.add i)=some v):
  ∀(i:Nat) (v:Value),vs[i]?=some v→∃ad:Addr,a=some ad∧ad.spot=none∧¬A ad.block∧w.cell? ⟨ad.block,ad.off+i,none⟩=some v:=by
 intro i v hv;have hlt:=(z02.1 hv).1;obtain⟨ad0,e0,hA0,h0⟩:=hm 0 vs[0] (z06 (by omega))
 have hs:ad0.spot=none:=by
  have:ad0.add 0=ad0:=by simp[Addr.add]
  rw[this]at h0;exact abt h0
 obtain⟨ad,e,hA,hc⟩:=hm i v hv;rw[e0]at e;cases e
 refine⟨ad0,e0,hs,hA, ?_⟩;obtain⟨b,o,sp⟩:=ad0;simp only at hs;subst hs;rw[gd]at hc;exact hc
theorem Bv(h:Rel P O0 w0 F s E tmps w){v:SV}{x:Value}{xs:List PV}(hv:cont s v=some xs)(hx:RS P (fun b=>E.om b∨F b) E w v x):
  ∃a cap vs,x= .slice a xs.length cap∧iu (fun b=>E.om b∨F b) w (da xs) vs∧(∀(i:Nat) (v:Value),vs[i]?=some v→∃ad:Addr,a=some ad∧ad.spot=none∧w.cell? ⟨ad.block,ad.off+i,none⟩=some v)∧(∃z,∀x∈xs,x.cells.length=z)∧xs.length≤maxLen∧xs.length≤cap:=by
 cases hx<;>try(simp[cont]at hv;done)
 case pv p hx=>
  cases p<;>simp[cont]at hv
  subst hv;obtain⟨vs,a,cap,rfl,hr,hm,hz,hb,hcap⟩:=hx.slParts;exact⟨a,cap,vs,rfl,hr,fun i v hv=>(zw (A:=fun b=>E.om b∨F b) hm i v hv).imp fun ad h=>⟨h.1,h.2.1,h.2.2.2⟩,⟨_,hz⟩,hb,hcap⟩
 case nils=>
  simp[cont]at hv;subst hv;exact⟨none,0,[],rfl,iu.nil _ _,by simp,⟨0,by simp⟩,by simp[maxLen],by simp⟩
 case al p=>
  simp only[cont]at hv;split at hv<;>simp at hv
  rename_i e ys hp;subst hv;have ho:=h.own hp;obtain⟨a,cap,hf,hcap⟩:=ho.form;obtain⟨cs,h1,h2,h3,h4⟩:=ho;rw[hf]at h1⊢;refine⟨a,cap,cs,rfl,h2,fun i v hv=> ?_,⟨_,h3⟩,h4,hcap⟩
  rcases h1.2 with⟨h5,h6⟩|⟨g,cap',cur,h5,_⟩
  ·have:cs=[]:=z05 (by rw[h1.1,h6,Nat.zero_mul])
   rw[this]at hv;simp at hv
  ·cases h5
   refine⟨_,rfl,rfl, ?_⟩;have:=h1.cells (g:=g) rfl i v hv
   rwa [gd]at this
 case vw p e0 off n hw=>
  simp only[cont]at hv;split at hv<;>simp at hv
  rename_i e ys hp;obtain⟨rfl,rfl⟩:=hv;have ho:=h.own hp;obtain⟨a0,cap0,hf,hcap0⟩:=ho.form;obtain⟨⟨a1,len,cap1,hh,hle⟩,a,cap,rfl,hnc,hn⟩:=hw;rw[hf]at hh;cases hh
  obtain⟨cs,h1,h2,h3,h4⟩:=ho;have hlen:((ys.drop off).take n).length=n:=by simp;omega
  have hz':∀x∈(ys.drop off),x.cells.length=P.cellsOf e:=fun x hx=>h3 x (z12 hx)
  refine⟨a,cap,(cs.drop (off*P.cellsOf e)).take (n*P.cellsOf e),by rw[hlen], ?_,fun i v hv=> ?_,⟨_,fun x hx=>hz' x (z11 hx)⟩,by rw[hlen];omega,by rw[hlen];exact hnc⟩
  ·rw[ol hz',u0 h3];exact(h2.drop _).take _
  ·rw[z01]at hv;split at hv
   ·rename_i hi;have hn0:0<n:=by
     rcases Nat.eq_zero_or_pos n with rfl|h0
     ·simp at hi
     ·exact h0
    obtain⟨b,hb,rfl⟩:=hn hn0;refine⟨_,rfl,rfl, ?_⟩;rw[z00]at hv;have:=h1.cells hb _ v hv;rw[gd]at this;simpa using this
   ·cases hv
theorem Bz(h:Rel P O0 w0 F s E tmps w){v:SV}{x:Value}{n:Int}{t:TypeId}(hv:alen s v=some n)(hx:RS P (fun b=>E.om b∨F b) E w v x):
  0≤n∧((∃l,v= .pv (.str l)∧x= .string ⟨l.toArray⟩∧n=l.length)∨(∃o ms clock,v= .mp o∧x= .map (some (E.obj o))∧w.heap[E.obj o]?=some (.map ms clock)∧n=ms.size)∨(∃xs a cap,cont s v=some xs∧x= .slice a xs.length cap∧n=xs.length∧xs.length≤maxLen∧xs.length≤cap)):=by
 unfold alen at hv;split at hv
 ·simp at hv;subst hv
  cases hx with
  |pv _ _ hx=>cases hx;exact⟨by omega,.inl ⟨_,rfl,rfl,rfl⟩⟩
 ·split at hv<;>simp at hv
  rename_i o _ es hl;subst hv;cases hx
  obtain⟨hom,ms,clock,hh,hs,_⟩:=h.obj _ _ hl;exact⟨by omega,.inr (.inl ⟨_,ms,clock,rfl,rfl,hh,by rw[hs]⟩)⟩
 ·split at hv<;>simp at hv
  rename_i xs hc;subst hv;obtain⟨a,cap,vs,rfl,_,_,_,hb,hb2⟩:=Bv h hc hx;exact⟨by omega,.inr (.inr ⟨xs,a,cap,hc,rfl,rfl,hb,hb2⟩)⟩
theorem Fm(h:Rel P O0 w0 F s E tmps w){t:TypeId}{v k r:SV}{x y:Value}(hv:aindexAddr P s t v k=some r)(hx:RS P (fun b=>E.om b∨F b) E w v x)(hk:RS P (fun b=>E.om b∨F b) E w k y):
  ∃z,(Instr.indexAt t x y).run P w= .ok z w∧RS P (fun b=>E.om b∨F b) E w r z:=by
 unfold aindexAddr at hv;split at hv
 ·rename_i _ ik i;cases hk with
  |pv _ _ hk=>
  cases hk
  split at hv
  ·simp at hv
  ·rename_i hi;unfold indexT at hv;split at hv
   ·rename_i e ez eb ea hT;obtain⟨hu,hez,_⟩:=p9 hT;split at hv
    ·simp at hv
    ·rename_i hz0;obtain⟨inf,hinf,hsz⟩:=fy (P:=P) (t:=e) (by omega)
     have hgo:∀(ad:Addr) (len cap:Nat),i.toNat<len→(Instr.indexAt t (.slice (some ad) len cap) (.int ik i)).run P w= .ok (.pointer (some (ad.add (i.toNat*P.cellsOf e)))) w:=by
      intro ad len cap hl;have:0≤i∧i<(len:Int):=by omega
      simp[Instr.indexAt,asIntOf,run_underlying hu,run_sizeOf w hinf,this]
     cases hx<;>try(simp at hv;done)
     case pv p hx=>
      cases p<;>simp at hv
      rename_i z xs;obtain⟨hzz,hv⟩:=hv;unfold raO at hv;split at hv<;>simp at hv
      rename_i c hc;subst hv;obtain⟨vs,a,cap,rfl,hr,hm,hz,hb⟩:=hx.slParts;have hzz:z=P.cellsOf e:=by rw[hez,hzz]
      subst hzz;have hlt:i.toNat<xs.length:=(z02.1 hc).1;have hpl:=zw (A:=fun b=>E.om b∨F b) hm
      have hlen:vs.length=xs.length*P.cellsOf e:=by rw[hr.1,i8 hz]
      have hpos:i.toNat*P.cellsOf e<vs.length:=by
       rw[hlen];exact Nat.mul_lt_mul_of_pos_right hlt (by omega)
      obtain⟨ad,rfl,hs,hA,hc0⟩:=hpl _ _ (z06 hpos);obtain⟨ab,ao,asp⟩:=ad;simp only at hs hA hc0;subst hs;refine⟨_,hgo _ _ _ hlt, ?_⟩;rw[gd];have hce:=Ke hz hr hc;have:=RS.ra (P:=P) (E:=E) c 0 _ ⟨ab,ao+i.toNat*P.cellsOf e,none⟩ rfl hce (fun j v hv=>by
       rw[z01]at hv;split at hv
       ·rw[z00]at hv;obtain⟨ad',e',_,hA',hc'⟩:=hpl _ v hv;cases e'
        rw[←z04]at hc';exact⟨hA',hc'⟩
       ·cases hv)
      exact this
     case al p=>
      change eaO p e i.toNat (s.at p)=some r at hv
      unfold eaO at hv;split at hv<;>simp at hv
      rename_i e' xs hp;obtain⟨⟨rfl,hlt⟩,rfl⟩:=hv;have ho:=h.own hp;obtain⟨b,cap,hf,hb⟩:=ho.block (by omega)
      rw[hf];refine⟨_,hgo _ _ _ hlt, ?_⟩;rw[gd];have:=RS.ea (P:=P) (A:=fun b=>E.om b∨F b) (E:=E) (w:=w) p e' i.toNat 0 b hb
      simpa using this
     case vw p e0 off n hw=>
      simp at hv;obtain⟨⟨rfl,hlt⟩,rfl⟩:=hv;obtain⟨_,a,cap,rfl,_,hn⟩:=hw;obtain⟨b,hb,rfl⟩:=hn (by omega)
      refine⟨_,hgo _ _ _ hlt, ?_⟩;rw[gd];have:=RS.ea (P:=P) (A:=fun b=>E.om b∨F b) (E:=E) (w:=w) p e0 (off+i.toNat) 0 b hb
      simpa[z16]using this
     case os o off n cap hcap=>
      simp at hv;obtain⟨hlt,rfl⟩:=hv;refine⟨_,hgo _ _ _ hlt, ?_⟩;rw[gd,hez];exact RS.ptr (P:=P) (A:=fun b=>E.om b∨F b) (E:=E) (w:=w) o (off+i.toNat*ez)
   ·rename_i n e ez ea hT;obtain⟨hu,hez⟩:=H3 hT;split at hv
    ·simp at hv
    ·rename_i hz0;obtain⟨inf,hinf,hsz⟩:=fy (P:=P) (t:=e) (by omega)
     cases hx<;>simp at hv
     rename_i o off;obtain⟨hlt,rfl⟩:=hv;have:0≤i∧i<(n:Int):=by omega
     refine⟨_, ?_,.ptr _ _⟩;simp[Instr.indexAt,asIntOf,run_underlying hu,run_sizeOf w hinf,this,Instr.sureAddr,gd,hez]
   ·simp at hv
 ·simp at hv
end
end Go.Ck
namespace Go.Ck
open Go.RowKit
section
variable {P : Program} {O0 : Base} {F : Nat → Prop} {w0 w : World} {s : St} {E : Env} {tmps : Array Value}
theorem Un(l:List UInt8)(a b:Nat):(⟨l.toArray⟩:ByteArray).extract a b=⟨((l.drop a).take (b-a)).toArray⟩:=by
 apply ByteArray.ext
 rw[ByteArray.data_extract];simp[z09]
def RSo(P:Program)(A:Nat→Prop)(E:Env)(w:World):Option SV→Option Value→Prop
 |none,none=>True
 |some v,some y=>RS P A E w v y
 |_,_=>False
def IVo:Option Int→Option Value→Prop
 |none,none=>True
 |some n,some y=> ∃k,y= .int k n
 |_,_=>False
theorem nu{o:Option SV}{m:Option Int}{x:Option Value}(h:oc o=some m)(hx:RSo P (fun b=>E.om b∨F b) E w o x):IVo m x:=by
 cases o with
 |none=>simp[oc]at h;subst h;cases x<;>simp_all [RSo,IVo]
 |some v=>
  cases x with
  |none=>simp[RSo]at hx
  |some y=>
   simp only[RSo]at hx;cases v<;>simp[oc]at h
   rename_i p;cases p<;>simp at h
   subst h;cases hx with
   |pv _ _ hx=>cases hx;exact⟨_,rfl⟩
theorem j9(isSlice:Bool)(n cap:Nat)(lo hi:Option Int)(xl xh:Option Value)(hl:IVo lo xl)(hh:IVo hi xh)(h:0≤lo.getD 0∧lo.getD 0≤hi.getD n∧hi.getD n≤n)(hc:n≤cap):
  (Instr.sliceBounds isSlice n cap xl xh none).run P w= .ok ((lo.getD 0).toNat,(hi.getD n).toNat,cap) w:=by
 obtain⟨h1,h2,h3⟩:=h;have e1:∀(k:IntKind) (m:Int) (c:BoundsCode) (y:Nat),0≤m→m≤y→(Instr.sliceBound (.int k m) y c).run P w= .ok m.toNat w:=by
  intro k m c y h0 h1;simp[Instr.sliceBound,asIntOf,h0,h1]
 cases lo with
 |none=>
  cases xl with
  |some _=>simp[IVo]at hl
  |none=>
   cases hi with
   |none=>
    cases xh with
    |some _=>simp[IVo]at hh
    |none=>simp[Instr.sliceBounds]
   |some b=>
    cases xh with
    |none=>simp[IVo]at hh
    |some y=>
     obtain⟨k,rfl⟩:=hh;simp at h2 h3 h1;simp[Instr.sliceBounds,e1 k b _ cap h2 (by omega)]
 |some a=>
  cases xl with
  |none=>simp[IVo]at hl
  |some y=>
   obtain⟨k,rfl⟩:=hl;simp at h1;cases hi with
   |none=>
    cases xh with
    |some _=>simp[IVo]at hh
    |none=>
     simp at h2;simp[Instr.sliceBounds,e1 k a _ n h1 h2]
   |some b=>
    cases xh with
    |none=>simp[IVo]at hh
    |some y=>
     obtain⟨k',rfl⟩:=hh;simp at h2 h3;have hb:0≤b:=by omega
     simp[Instr.sliceBounds,e1 k' b _ cap hb (by omega),e1 k a _ b.toNat h1 (by omega)]
theorem Qm(h:Rel P O0 w0 F s E tmps w){t:TypeId}{v r:SV}{x:Value}{lo hi:Option SV}{xl xh:Option Value}(hv:Im P s t v lo hi=some r)(hx:RS P (fun b=>E.om b∨F b) E w v x)
  (hl:RSo P (fun b=>E.om b∨F b) E w lo xl) (hh:RSo P (fun b=>E.om b∨F b) E w hi xh):
  ∃z,(Instr.sliceAt t x xl xh none).run P w= .ok z w∧RS P (fun b=>E.om b∨F b) E w r z:=by
 unfold Im at hv;unfold sliceN at hv;split at hv
 ·rename_i n hn;split at hv
  ·rename_i m1 m2 e1 e2;have hl':=nu e1 hl;have hh':=nu e2 hh;unfold Ob at hv;split at hv
   ·rename_i hb;obtain⟨hn0,hcase⟩:=Bz (t:=t) h hn hx;unfold H6 at hv;split at hv
    ·rename_i e ez eb ea hT;obtain⟨hu,hez,_⟩:=p9 hT;have hgo:∀(a:Option Addr) (N cap:Nat),n=(N:Int)→N≤cap→0<P.cellsOf e→(Instr.sliceAt t (.slice a N cap) xl xh none).run P w=
       .ok (.slice (if cap=(m1.getD 0).toNat then a else a.map (·.add ((m1.getD 0).toNat*P.cellsOf e))) ((m2.getD n).toNat-(m1.getD 0).toNat) (cap-(m1.getD 0).toNat)) w:=by
      intro a N cap hN hc hp;subst hN;obtain⟨inf,hinf,hsz⟩:=fy (P:=P) (t:=e) hp;have:=j9 (P:=P) (w:=w) true N cap m1 m2 xl xh hl' hh' hb hc;simp[Instr.sliceAt,Instr.slice,run_underlying hu,this,run_sizeOf w hinf]
     have hto:∀(N:Nat),n=(N:Int)→(m1.getD 0).toNat+(m2.getD n-m1.getD 0).toNat≤N∧(m2.getD n).toNat-(m1.getD 0).toNat=(m2.getD n-m1.getD 0).toNat:=by
      intro N hN;omega
     have hcs:∀xs,cont s v=some xs→∃a cap,x= .slice a xs.length cap∧n=(xs.length:Int)∧xs.length≤cap:=by
      intro xs hxs;rcases hcase with⟨l,rfl,_⟩|⟨o,ms,c,rfl,_⟩|⟨ys,a',cap',hc',hx',hn',_,hcp⟩
      ·simp[cont]at hxs
      ·simp[cont]at hxs
      ·rw[hxs]at hc';cases hc';exact⟨a',cap',hx',hn',hcp⟩
     cases hx<;>try(simp at hv;done)
     case pv p hx=>
      cases p<;>simp at hv
      rename_i z xs;obtain⟨⟨hz,hz0⟩,rfl⟩:=hv;obtain⟨vs,a,cap,rfl,hr,hm,hzz,hb',hcap⟩:=hx.slParts;obtain⟨_,_,_,hn,_⟩:=hcs xs rfl;obtain⟨ht1,ht2⟩:=hto _ hn;refine⟨_,hgo a _ cap hn hcap (z08 (hez▸hz0)), ?_⟩;rw[ht2];have hlen:((xs.drop (m1.getD 0).toNat).take (m2.getD n-m1.getD 0).toNat).length=(m2.getD n-m1.getD 0).toNat:=by simp;omega
      have hzz':z=P.cellsOf e:=by rw[hz,hez]
      subst hzz';have hz':∀x∈(xs.drop (m1.getD 0).toNat),x.cells.length=P.cellsOf e:=fun x hx=>hzz x (z12 hx)
      have:=mm (A:=fun b=>E.om b∨F b) (w:=w) (xs:=(xs.drop (m1.getD 0).toNat).take (m2.getD n-m1.getD 0).toNat) (vs:=(vs.drop ((m1.getD 0).toNat*P.cellsOf e)).take ((m2.getD n-m1.getD 0).toNat*P.cellsOf e))
       (a:=if cap=(m1.getD 0).toNat then a else a.map (·.add ((m1.getD 0).toNat*P.cellsOf e))) (cap:=cap-(m1.getD 0).toNat) (by
        rw[ol hz',u0 hzz];exact(hr.drop _).take _) (fun i u hu=>by
         rw[z01]at hu;split at hu
         ·rename_i hi;rw[z00]at hu;obtain⟨ad,rfl,hs,hA,hc⟩:=zw (A:=fun b=>E.om b∨F b) hm _ _ hu
          have hne:cap≠(m1.getD 0).toNat:=by
           intro he;have:(m2.getD n-m1.getD 0).toNat=0:=by omega
           rw[this]at hi;omega
          obtain⟨ab,ao,asp⟩:=ad;simp only at hs hA hc;subst hs;refine⟨⟨ab,ao+(m1.getD 0).toNat*P.cellsOf e,none⟩,by rw[if_neg hne];simp[gd],hA, ?_⟩
          rw[gd,z04];exact hc
         ·cases hu) (fun x hx=>hz' x (z11 hx)) (by rw[hlen];omega) (by rw[hlen];omega)
      rw[hlen]at this;exact .pv _ _ this
     case al p=>
      change(if ez=0 then none else some (SV.vw p e (m1.getD 0).toNat (m2.getD n-m1.getD 0).toNat))=some r at hv
      split at hv
      ·simp at hv
      ·rename_i hz0;simp at hv;subst hv;cases hc:cont s (.al p)with
       |none=>
        rcases hcase with⟨l,hl1,_⟩|⟨o,ms,c,hl1,_⟩|⟨ys,a',cap',hc',_⟩
        ·cases hl1
        ·cases hl1
        ·rw[hc]at hc';cases hc'
       |some xs=>
        obtain⟨a,cap,he,hn,hcap⟩:=hcs xs hc;obtain⟨ht1,ht2⟩:=hto _ hn;have hx2:=hcs xs hc;simp only[cont]at hc;split at hc<;>simp at hc
        rename_i e1 ys hp;subst hc;have ho:=h.own hp;rw[he];refine⟨_,hgo a _ cap hn hcap (z08 (hez▸hz0)), ?_⟩;rw[ht2];refine .vw _ _ _ _ _ ⟨⟨a,ys.length,cap,he,by omega⟩,_,_,rfl,by omega,fun hpos=> ?_⟩
        obtain⟨b,cap',hf,hb⟩:=ho.block (by omega)
        refine⟨b,hb, ?_⟩;rw[he]at hf;cases hf
        have hne:cap≠(m1.getD 0).toNat:=by omega
        rw[if_neg hne];simp[gd]
     case vw p e0 off m hw=>
      change(if e0=e∧ez≠0 then some (SV.vw p e (off+(m1.getD 0).toNat) (m2.getD n-m1.getD 0).toNat)else none)=some r at hv
      split at hv
      ·rename_i hz0;obtain⟨rfl,hz0⟩:=hz0;simp at hv;subst hv;obtain⟨⟨a0,len0,cap0,hh0,hle0⟩,a,cap,rfl,hmc,hn⟩:=hw;have hnm:n=(m:Int):=by
        rcases hcase with⟨l,hl1,_⟩|⟨o,ms,c,hl1,_⟩|⟨ys,a',cap',hc',hx',hn',_⟩
        ·cases hl1
        ·cases hl1
        ·cases hx';exact hn'
       obtain⟨ht1,ht2⟩:=hto _ hnm;refine⟨_,hgo a _ cap hnm hmc (z08 (hez▸hz0)), ?_⟩;rw[ht2];refine .vw _ _ _ _ _ ⟨⟨a0,len0,cap0,hh0,by omega⟩,_,_,rfl,by omega,fun hpos=> ?_⟩
       obtain⟨b,hb,rfl⟩:=hn (by omega)
       refine⟨b,hb, ?_⟩;have hne:cap≠(m1.getD 0).toNat:=by omega
       rw[if_neg hne];simp[gd,z16]
      ·simp at hv
     case nils=>
      simp at hv;obtain⟨hv0,rfl⟩:=hv;have hv0:0<P.cellsOf e:=by omega
      obtain⟨a,cap,he,hn,hcap⟩:=hcs [] rfl;cases he
      simp at hn;subst hn;obtain⟨hb1,hb2,hb3⟩:=hb;have e1:m1.getD 0=0:=by omega
      have e2:m2.getD 0=0:=by omega
      by_cases hpz:0<P.cellsOf e
      ·refine⟨_,hgo none 0 0 rfl (by omega) hpz, ?_⟩
       simp[e1,e2];exact .nils
      ·exact absurd hv0 hpz
    ·rename_i hT;have hu:=rz hT;cases hx<;>try(simp at hv;done)
     case pv p hx=>
      cases p<;>simp at hv
      rename_i l;subst hv;cases hx
      have hn:n=(l.length:Int):=by
       rcases hcase with⟨l',hl1,hx1,hn1⟩|⟨o,ms,c,hl1,_⟩|⟨ys,a',cap',hc',_⟩
       ·cases hl1;exact hn1
       ·cases hl1
       ·simp[cont]at hc'
      subst hn;have:=j9 (P:=P) (w:=w) false l.length l.length m1 m2 xl xh hl' hh' hb (Nat.le_refl _);refine⟨.string ((⟨l.toArray⟩:ByteArray).extract (m1.getD 0).toNat (m2.getD (l.length:Int)).toNat), ?_, ?_⟩
      ·have hs:(⟨l.toArray⟩:ByteArray).size=l.length:=by simp[ByteArray.size]
       simp[Instr.sliceAt,Instr.slice,run_underlying hu,hs,this]
      ·rw[Un];have:(m2.getD (l.length:Int)).toNat-(m1.getD 0).toNat=(m2.getD (l.length:Int)-m1.getD 0).toNat:=by omega
       rw[this];exact .pv _ _ (.str _)
    ·simp at hv
   ·simp at hv
  ·simp at hv
 ·simp at hv
end
end Go.Ck
namespace Go.Ck
open Go.RowKit
section
variable {P : Program} {O0 : Base} {F : Nat → Prop} {w0 w : World} {s : St} {E : Env} {a : Act}
theorem cq(h:Rel P O0 w0 F s E a.tmps w){x:Operand}{v:SV}(hv:ev s x=some v):RS P (fun b=>E.om b∨F b) E w v (a.eval x):=by
 cases x with
 |tmp t=>exact h.ev_tmp hv
 |const c=>exact RS.ofConst hv
 |global g=>simp[ev]at hv
 |func f=>
  simp[ev]at hv;subst hv;exact RS.fn (P:=P) (A:=fun b=>E.om b∨F b) (E:=E) (w:=w) f [] [] rfl rfl (by simp)
theorem RO.bool_eq{A:Nat→Prop}{b:Bool}{x:Value}(h:RO A w (.bool b) x):x= .bool b:=by
 generalize hp:PV.bool b=p at h;cases h<;>simp_all
theorem RO.int_eq{A:Nat→Prop}{k:IntKind}{n:Int}{x:Value}(h:RO A w (.int k n) x):x= .int k n:=by
 generalize hp:PV.int k n=p at h;cases h<;>simp_all
theorem lu(h:Rel P O0 w0 F s E a.tmps w){x:Operand}{p:PV}(hv:ev s x=some (.pv p)):RO (fun b=>E.om b∨F b) w p (a.eval x):=by
 have:=cq h hv;cases this with
 |pv _ _ h=>exact h
theorem u1(h:Rel P O0 w0 F s E a.tmps w){x:Option Operand}{v:Option SV}(hv:evo s x=some v):RSo P (fun b=>E.om b∨F b) E w v (x.map a.eval):=by
 cases x with
 |none=>simp[evo]at hv;subst hv;trivial
 |some x=>
  simp only[evo]at hv;split at hv<;>simp at hv
  rename_i u hu;subst hv;exact cq h hu
theorem lf(h:Rel P O0 w0 F s E a.tmps w):∀ {xs:List Operand} {vs:List SV},evs s xs=some vs→vs.length=xs.length∧∀(i:Nat) (x:Operand) (v:SV),xs[i]?=some x→vs[i]?=some v→ev s x=some v
 |[],vs,hv=>by simp[evs]at hv;subst hv;simp
 |x::r,vs,hv=>by
  simp only[evs]at hv;split at hv<;>simp at hv
  rename_i v us h1 h2;subst hv;obtain⟨h3,h4⟩:=lf h h2;refine⟨by simp[h3],fun i y u hy hu=> ?_⟩
  cases i with
  |zero=>simp at hy hu;subst hy;subst hu;exact h1
  |succ i=>exact h4 i y u (by simpa using hy) (by simpa using hu)
theorem P6{A:Nat→Prop}{xs:List PV}{l:List Int}{vs:List Value}(h:r9 xs=some l)(hr:iu A w (da xs) vs):vs.length=xs.length∧l.length=xs.length∧∀i,i<xs.length→vs[i]?=some (.int .u8 (l.getD i 0)):=by
 induction xs generalizing l vs with
 |nil=>simp[r9]at h;subst h;have:=hr.1;simp[da]at this;subst this;simp
 |cons x xs ih=>
  cases x<;>try(simp[r9]at h;done)
  rename_i k n;cases k<;>try(simp[r9]at h;done)
  simp only[r9]at h;split at h<;>simp at h
  rename_i l' hl';subst h;have e:da (PV.int .u8 n::xs)=PV.int .u8 n::da xs:=by simp[jq,PV.cells]
  rw[e]at hr
  match vs,hr.1 with
  |v::us,hlen=>
   have h0:=hr.2.2 0 _ v rfl rfl;cases h0
   have hr':iu A w (da xs) us:=by
    have:=hr.drop 1;simpa using this
   obtain⟨h2,h3,h4⟩:=ih hl' hr';refine⟨by simp[h2],by simp[h3],fun i hi=> ?_⟩
   cases i with
   |zero=>simp
   |succ i=>simpa using h4 i (by simpa using hi)
theorem U1(h:Rel P O0 w0 F s E a.tmps w){src dst:TypeId}{v r:SV}{x:Value}(hv:Y3 P s src dst v=some r)(hx:RS P (fun b=>E.om b∨F b) E w v x):
  ∃z,(convert src dst x).run P w= .ok z w∧RS P (fun b=>E.om b∨F b) E w r z:=by
 unfold Y3 at hv;unfold convT at hv;split at hv
 ·rename_i k' k h1 h2;have hu1:=r5 h1;have hu2:=r5 h2;split at hv<;>simp at hv
  subst hv;cases hx with
  |pv _ _ hx=>
   cases hx
   refine⟨_, ?_,.pv _ _ (.int _ _)⟩;simp[convert,run_underlying hu1,run_underlying hu2,Conv.intToInt]
 ·rename_i h1 h2;have hu1:=rz h1;have hu2:=rz h2;split at hv<;>simp at hv
  subst hv;cases hx with
  |pv _ _ hx=>
   cases hx
   refine⟨_, ?_,.pv _ _ (.str _)⟩;simp[convert,run_underlying hu1,run_underlying hu2]
 ·rename_i e ez eb ea h1 h2;obtain⟨hu1,_,_⟩:=p9 h1;have hu2:=rz h2;split at hv
  ·rename_i he;have hue:=r5 he;unfold bstrO at hv;split at hv
   ·rename_i xs hc;unfold akw at hv;split at hv<;>simp at hv
    rename_i l hl;subst hv;obtain⟨ad,cap,vs,rfl,hr,hm,_,_⟩:=Bv h hc hx;obtain⟨h3,h4,h5⟩:=P6 hl hr;have hs:strOfNums l=⟨(Ic l).toArray⟩:=by simp[strOfNums,Ic]
    refine⟨.string (strOfNums l), ?_,by rw[hs];exact .pv _ _ (.str _)⟩
    cases ad with
    |none=>
     have:xs=[]:=by
      match xs,h5 with
      |[],_=>rfl
      |y::ys,h5=>obtain⟨_,e,_⟩:=hm 0 _ (h5 0 (by simp));cases e
     subst this;have:l=[]:=z05 (by simpa using h4)
     subst this;rw[run_convert_bytes_nil w src e hu1 hue _ _ dst hu2];simp[strOfNums,ByteArray.empty,ByteArray.emptyWithCapacity];rfl
    |some ad=>
     by_cases hx0:xs=[]
     ·subst hx0;have:l=[]:=z05 (by simpa using h4)
      subst this;simp[convert,run_underlying hu1,run_underlying hu2,run_underlying hue,Conv.bytesToString,loadCells,loadCellsFrom,strOfNums,ByteArray.empty,ByteArray.emptyWithCapacity];rfl
     ·have hpos:0<xs.length:=List.length_pos_iff.2 hx0;obtain⟨ad',e',hsp,_⟩:=hm 0 _ (h5 0 hpos);cases e'
      obtain⟨ab,ao,asp⟩:=ad;simp only at hsp;subst hsp;exact run_convert_bytes_arg w src e hu1 hue ab ao xs.length cap l h4 (fun i hi=>by
       obtain⟨ad',e',_,hcc⟩:=hm i _ (h5 i hi);cases e'
       exact hcc) dst hu2
   ·simp at hv
  ·simp at hv
 ·simp at hv
theorem az7{op:UnOp}{p r:PV}{x:Value}{A:Nat→Prop}(hp:RO A w p x)(h:aun op p=some r):∃z,(Op.unary op x).run P w= .ok z w∧RO A w r z:=by
 unfold aun at h;split at h<;>simp at h<;>subst h<;>cases hp
 ·exact⟨_,by simp[Op.unary,Op.intArith],.int _ _⟩
 ·exact⟨_,by simp[Op.unary,Op.intBits,ef],.int _ _⟩
 ·exact⟨_,by simp[Op.unary],.bool _⟩
theorem I1{o:Option PV}{r:SV}(h:Ym o=some r):∃p,o=some p∧r= .pv p:=by
 cases o with
 |none=>simp[Ym]at h
 |some p=>simp[Ym]at h;exact⟨p,rfl,h.symm⟩
theorem L8{A:Nat→Prop}{op:BinOp}{t:TypeId}{r:SV}{ou ov:Operand}(c:Bool)(a b:Option Addr)(hT:(tk P t).isPtr=true)(he:∀e,P.underlying t=some (.pointer e)→(Op.equal t (.pointer a) (.pointer b)).run P w= .ok c w)(hr:Vg c op=some r):
  ∃z,(do eqGuard op t ou ov (.pointer a) (.pointer b);binOp op t (.pointer a) (.pointer b):Sem Value).run P w= .ok z w∧RS P A E w r z:=by
 have hu:∃e,P.underlying t=some (.pointer e):=by
  unfold tk at hT;split at hT<;>simp[TK.isPtr]at hT
  exact⟨_, ‹_›⟩
 obtain⟨e,hu⟩:=hu;have he:=he e hu;cases op<;>simp[Vg]at hr<;>subst hr
 ·refine⟨.bool c, ?_,.pv _ _ (.bool _)⟩;simp only[eqGuard,binOp];simp[Sem.run,he,Result.andThen]
 ·refine⟨.bool (!c), ?_,.pv _ _ (.bool _)⟩;simp only[eqGuard,binOp];simp[Sem.run,he,Result.andThen]
theorem ahs{op:BinOp}{A:Nat→Prop}{x y:SV}{r:SV}{u v:Value}{t:TypeId}{ou ov:Operand}(hx:RS P A E w x u)(hy:RS P A E w y v)(hb:Lq (tk P t) op x y=some r):
  ∃z,(do eqGuard op t ou ov u v;binOp op t u v:Sem Value).run P w= .ok z w∧RS P A E w r z:=by
 unfold Lq at hb;split at hb
 ·obtain⟨p,hbb,rfl⟩:=I1 hb;cases hx with|pv _ _ hx=>cases hy with|pv _ _ hy=>
  obtain⟨z,h1,h2⟩:=Ov (t:=t) (u:=ou) (v:=ov) hx hy (.inl ⟨_,_,_,_,rfl,rfl⟩) hbb;exact⟨z,h1,.pv _ _ h2⟩
 ·obtain⟨p,hbb,rfl⟩:=I1 hb;cases hx with|pv _ _ hx=>cases hy with|pv _ _ hy=>
  obtain⟨z,h1,h2⟩:=Ov (t:=t) (u:=ou) (v:=ov) hx hy (.inr (.inl ⟨_,_,rfl,rfl⟩)) hbb;exact⟨z,h1,.pv _ _ h2⟩
 ·by_cases hT:(tk P t).isBool=true
  ·rw[if_pos hT]at hb;obtain⟨p,hbb,rfl⟩:=I1 hb;have hu:P.underlying t=some .bool:=by
    unfold tk at hT;split at hT<;>simp[TK.isBool]at hT
    assumption
   cases hx with|pv _ _ hx=>cases hy with|pv _ _ hy=>
   obtain⟨z,h1,h2⟩:=Ov (t:=t) (u:=ou) (v:=ov) hx hy (.inr (.inr ⟨⟨_,_,rfl,rfl⟩,hu⟩)) hbb;exact⟨z,h1,.pv _ _ h2⟩
  ·rw[if_neg hT]at hb;cases hb
 ·by_cases hT:(tk P t).isPtr=true
  ·rw[if_pos hT]at hb;cases hx with|pv _ _ hx=>
   cases hx
   cases hy with|pv _ _ hy=>
   cases hy
   exact L8 true none none hT (fun e hu=>by
    show(Op.equalIn (9999+1) t _ _).run P w=_
    rw[Op.equalIn];simp[run_underlying hu]) hb
  ·rw[if_neg hT]at hb;cases hb
 ·by_cases hT:(tk P t).isPtr=true
  ·rw[if_pos hT]at hb;cases hy with|pv _ _ hy=>
   cases hy
   cases hx
   exact L8 false (some _) none hT (fun e hu=>by
    show(Op.equalIn (9999+1) t _ _).run P w=_
    rw[Op.equalIn];simp[run_underlying hu]) hb
  ·rw[if_neg hT]at hb;cases hb
 ·cases hb
theorem Vj{t k e:Nat}(h:tk P t= .map k e):P.underlying t=some (.map k e):=by
 unfold tk at h;split at h<;>simp at h
 rename_i hu;obtain⟨rfl,rfl⟩:=h;exact hu
theorem kx{r:Nat}{ms:Array MapEntry}{c:Nat}(h:w.heap[r]?=some (.map ms c)):(getObj r).run P w= .ok (.map ms c) w:=by
 simp[getObj,Sem.run,h]
theorem W3(h:Rel P O0 w0 F s E a.tmps w){v r:SV}{x:Value}{t ty:TypeId}(hv:lenT s v (tk P t)=some r)(hx:RS P (fun b=>E.om b∨F b) E w v x):
  ∃z,(Builtin.len_ #[t] ty #[x]).run P w= .ok z w∧RS P (fun b=>E.om b∨F b) E w r z:=by
 unfold lenT at hv;split at hv
 ·rename_i hT;have hu:=rz hT;split at hv<;>simp at hv
  subst hv;cases hx with
  |pv _ _ hx=>
   cases hx
   refine⟨_, ?_,.pv _ _ (.int _ _)⟩;rename_i l;have hs:(⟨l.toArray⟩:ByteArray).size=l.length:=by simp[ByteArray.size]
   simp[Builtin.len_,run_underlying hu,goInt,hs]
 ·rename_i hT;obtain⟨hu,_,_⟩:=p9 hT;split at hv
  ·cases hv
  ·cases hv
  ·rename_i hn1 hn2;unfold intO at hv;split at hv<;>simp at hv
   rename_i n hn;subst hv;obtain⟨h0,hc⟩:=Bz (t:=t) h hn hx;rcases hc with⟨l,rfl,_⟩|⟨o,ms,c,rfl,_⟩|⟨xs,ad,cap,hc,rfl,rfl,_⟩
   ·exact absurd rfl (hn2 l)
   ·exact absurd rfl (hn1 o)
   ·refine⟨_, ?_,.pv _ _ (.int _ _)⟩;simp[Builtin.len_,run_underlying hu,goInt]
 ·rename_i hT;have hu:=Vj hT;split at hv
  ·rename_i o;unfold intO at hv;split at hv<;>simp at hv
   rename_i n hn;subst hv;obtain⟨h0,hc⟩:=Bz (t:=t) h hn hx;rcases hc with⟨l,h1,_⟩|⟨o',ms,c,h1,rfl,hh,rfl⟩|⟨xs,ad,cap,hc,rfl,rfl,_⟩
   ·cases h1
   ·cases h1
    refine⟨_, ?_,.pv _ _ (.int _ _)⟩;simp[Builtin.len_,run_underlying hu,goInt,kx hh]
   ·simp[cont]at hc
  ·cases hv
 ·cases hv
theorem X9(h:Rel P O0 w0 F s E a.tmps w){o:Oper}{v:SV}(hv:aval P s o.type o.op=some v):
  ∃x,(execOp a.eval o).run P w= .ok (.value x) w∧RS P (fun b=>E.om b∨F b) E w v x:=by
 unfold aval at hv;unfold execOp;split at hv
 case h_1 x he=>rw[he];exact⟨_,rfl,cq h hv⟩
 case h_2 x he=>rw[he];exact⟨_,rfl,cq h hv⟩
 case h_3 c x y he=>
  rw[he];split at hv
  ·rename_i hc;have e:=(lu h hc).bool_eq;split at hv<;>simp at hv
   rename_i hx;subst hv;exact⟨_,by simp[e,asBool],.pv _ _ (lu h hx)⟩
  ·rename_i hc;have e:=(lu h hc).bool_eq;split at hv<;>simp at hv
   rename_i hx;subst hv;exact⟨_,by simp[e,asBool],.pv _ _ (lu h hx)⟩
  ·cases hv
 case h_4 op t x he=>
  rw[he];split at hv
  ·rename_i p hx;split at hv<;>simp at hv
   rename_i r hr;subst hv;obtain⟨z,h1,h2⟩:=az7 (P:=P) (w:=w) (lu h hx) hr;exact⟨z,by simp[h1],.pv _ _ h2⟩
  ·cases hv
 case h_5 op t x y t' he=>
  rw[he];split at hv
  ·rename_i p q hp hq;obtain⟨z,h1,h2⟩:=ahs (ou:=x) (ov:=y) (cq h hp) (cq h hq) hv;refine⟨z, ?_,h2⟩;simp only[Sem.run_bind]at h1⊢;rw[h1];rfl
  ·cases hv
 case h_6 t1 t2 x he=>
  rw[he];split at hv
  ·rename_i p hp;obtain⟨z,h1,h2⟩:=U1 h hv (cq h hp);exact⟨z,by simp[h1],h2⟩
  ·cases hv
 case h_7 x he=>
  rw[he];split at hv<;>simp at hv<;>rename_i hx<;>subst hv
  all_goals
   have hr:=cq h hx;cases e:a.eval x<;>rw[e]at hr<;>try(cases hr;done)
  all_goals
   rename_i ad;cases ad with
   |none=>cases hr
   |some ad=>exact⟨.pointer (some ad),by simp[e],hr⟩
 case h_8 t x he=>
  rw[he];split at hv
  ·rename_i p hp;obtain⟨z,h1,h2⟩:=Gf h hv (cq h hp);exact⟨z,by simp[h1],h2⟩
  ·cases hv
 case h_9 t x f he=>
  rw[he];split at hv
  ·rename_i p hp;obtain⟨z,h1,h2⟩:=Fo (w:=w) hv (cq h hp);exact⟨z,by simp[h1],h2⟩
  ·cases hv
 case h_10 t x f he=>
  rw[he];split at hv
  ·rename_i p hp;obtain⟨z,h1,h2⟩:=Qo (w:=w) hv (cq h hp);exact⟨z,by simp[h1],h2⟩
  ·cases hv
 case h_11 t x i he=>
  rw[he];split at hv
  ·rename_i p q hp hq;obtain⟨z,h1,h2⟩:=Fm h hv (cq h hp) (cq h hq);exact⟨z,by simp[h1],h2⟩
  ·cases hv
 case h_12 t x lo hi he=>
  rw[he];split at hv
  ·rename_i p l u hp hl hu;obtain⟨z,h1,h2⟩:=Qm h hv (cq h hp) (u1 h hl) (u1 h hu);exact⟨z,by simp[h1],h2⟩
  ·cases hv
 case h_13 x i he=>
  rw[he];split at hv
  ·rename_i t;split at hv<;>simp at hv
   rename_i p hp;subst hv;obtain⟨y,⟨vs,h1,h2⟩,h3⟩:=h.place _ _ hp;simp only[ip]at h3;refine⟨y, ?_,h3⟩;have:a.eval (.tmp t)= .tuple vs:=by simp[Act.eval,Array.getD_eq_getD_getElem?,h1]
   simp[this,Instr.extract,h2]
  ·cases hv
 case h_14 t x he=>
  rw[he];split at hv<;>simp at hv
  rename_i p fs hp hT;subst hv;obtain⟨fl,hu,_⟩:=Li hT;exact⟨.iface t (a.eval x),by simp[Instr.makeInterface,run_underlying hu],.pv _ _ (.iface _ _ _ (lu h hp))⟩
 case h_15 c he=>
  rw[he];split at hv
  ·rename_i hc;split at hv
   ·rename_i v t hvs hts;obtain⟨h1,h2⟩:=lf h hvs;have hal:c.args= #[c.args.toList[0]'(by rw[←h1];simp)]:=by
     apply z07
     match hcl:c.args.toList,h1 with
     |[x],_=>simp
    have hat:c.argTypes= #[t]:=by apply z07;rw[hts]
    have hx:=cq h (h2 0 _ v (z06 (by rw[←h1];simp)) rfl)
    obtain⟨z,h3,h4⟩:=W3 (ty:=o.type) h hv hx;refine⟨z, ?_,h4⟩;rw[←hat]at h3;generalize c.args.toList[0]'(by rw[←h1];simp)=x0 at hal h3
    simp[resolve,hc,invoke,builtin,hal,h3]
   ·cases hv
  ·rename_i hc;split at hv
   ·rename_i vs hvs;unfold ak0 at hv;split at hv
    ·rename_i k x k' y;split at hv<;>simp at hv
     rename_i hk;subst hk;subst hv;obtain⟨h1,h2⟩:=lf h hvs
     match hcl:c.args.toList,h1 with
     |[x0,x1],_=>
      have e0:=lu h (h2 0 x0 _ (by rw[hcl];rfl) rfl)
      have e1:=lu h (h2 1 x1 _ (by rw[hcl];rfl) rfl)
      have hal:c.args= #[x0,x1]:=by apply z07;rw[hcl]
      have e0:=e0.int_eq;have e1:=e1.int_eq;refine⟨_, ?_,.pv _ _ (.int _ _)⟩;simp[resolve,hc,invoke,builtin,hal,Builtin.min_,Builtin.min2,e0,e1]
    ·cases hv
   ·cases hv
  ·rename_i hc;split at hv
   ·rename_i vs hvs;unfold ak1 at hv;split at hv
    ·rename_i k x k' y;split at hv<;>simp at hv
     rename_i hk;subst hk;subst hv;obtain⟨h1,h2⟩:=lf h hvs
     match hcl:c.args.toList,h1 with
     |[x0,x1],_=>
      have e0:=lu h (h2 0 x0 _ (by rw[hcl];rfl) rfl)
      have e1:=lu h (h2 1 x1 _ (by rw[hcl];rfl) rfl)
      have hal:c.args= #[x0,x1]:=by apply z07;rw[hcl]
      have e0:=e0.int_eq;have e1:=e1.int_eq;refine⟨_, ?_,.pv _ _ (.int _ _)⟩;simp[resolve,hc,invoke,builtin,hal,Builtin.max_,Builtin.max2,e0,e1]
    ·cases hv
   ·cases hv
  ·cases hv
 case h_16=>cases hv
end
end Go.Ck

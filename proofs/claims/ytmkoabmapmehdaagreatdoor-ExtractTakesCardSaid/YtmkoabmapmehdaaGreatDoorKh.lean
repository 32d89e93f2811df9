/- What is proved here: parts of the proofs of this seat's statements (a verified evaluator for calls over pure values, its laws, and contracts of functions). No condition. -/
import Derived.Test.YtmkoabmapmehdaaGreatDoorKg
import Derived.OrdersIn
import Derived.StillTail
set_option linter.all false
open List renaming getElem?_map→z00,mem_cons→z01,all_eq_true→z02,map_cons→z04,mem_of_getElem?→z07,getElem?_take→z08,getElem?_drop→z09,getElem?_append_right→z10,getElem?_eq_some_iff→z11,getElem?_append_left→z12,getElem?_eq_getElem→z13,mem_of_mem_drop→z14,mem_map→z16,range→z18
open Option renaming map_eq_some_iff→z03,map_some→z05
open Bool renaming and_eq_true→z06
open Array renaming replicate→z15
open Nat renaming zero_add→z17
namespace Go.Ck
open Go.RowKit
theorem kd{P:Program}{R:Option Nat}{n:Nat}{f:FuncId}{args:Array Value}{w:World}{Q:Ending→World→Prop}(h:Calls P f args w Q):CallsIn (eg R) n P f args w Q:=by
 have h1:CallsIn Fence.wide n P f args w Q:=callsIn_wide.2 h;cases R with
 |none=>exact h1
 |some l=>exact h1
section
variable {P : Program} {R : Option Nat} {ops : Array Oper} {md : Region.Mode} {w : World}
theorem Tp{o:Oper}{a:Act}{K:Act→Prop}(h:o.still P a w K):∀c,o.op≠ .defer c:=fun c hc=>by
 unfold Oper.still at h;simp only[execOp,hc,Sem.run_bind]at h;generalize(resolve a.eval c o.type).run P w=r at h;cases r with
 |ok d w'=>simp[Oper.stillUpon]at h
 |halt x w'=>simp[Oper.stillUpon]at h
theorem Kz{o:Oper}{a:Act}{K:Act→Prop}{K':Act→World→Prop}{Q':Exit→Act→World→Prop}(h:∀a,K a→K' a w)(hh:o.still P a w K):o.wpIn (eg R) 0 P a w K' Q':=by
 refine⟨fun f _=>trivial, ?_⟩
 rw[Fy (Tp hh)];unfold Oper.still at hh;generalize(execOp a.eval o).run P w=r at*;cases r with
 |ok n w'=>
  cases n<;>simp only[Oper.stillUpon]at hh<;>simp only[Oper.uponIn]
  case enter f args=>
   obtain⟨rfl,v,hc,hn⟩:=hh;refine⟨fun h=>by simp[eg,Fence.wide]at h, ?_⟩
   exact kd (hc.mono (fun e w'' ⟨he,hw⟩=>by subst he;subst hw;exact h _ hn))
  all_goals (obtain⟨rfl,h2⟩:=hh;exact h _ h2)
 |halt x w'=>simp only[Oper.stillUpon]at hh
theorem zd{i:Nat}{a:Act}{K:Act→Prop}{K':Act→World→Prop}{Q':Exit→Act→World→Prop}(h:∀a,K a→K' a w)(hh:stOp P ops w i K a):wpOpIn (eg R) 0 P ops Q' i K' a w:=by
 unfold stOp at hh;unfold wpOpIn;split
 ·rename_i ho;simp only[ho]at hh;exact h _ hh
 ·rename_i o ho;simp only[ho]at hh;split
  ·rename_i hw;simp only[hw,if_true]at hh;exact Kz h hh
  ·rename_i hw;simp only[hw]at hh;exact⟨fun _ _=>trivial,h _ hh⟩
theorem u5{Q:Act→Prop}{Q':Exit→Act→World→Prop}(hQ:∀a,Q a→Q' .normal a w):∀(fuel:Nat) (listed:Array Bool) (a:Act),
  wpAnyS P md ops w Q fuel listed a→wpAnyIn (eg R) 0 P md ops Q' fuel listed a w
 |0,_,_,h=>⟨h.1,hQ _ h.2⟩
 |fuel+1,_,_,h=>⟨fun h0=>hQ _ (h.1 h0),fun i hi=>zd (fun a'=>u5 hQ fuel _ a') (h.2 i hi)⟩
theorem D2{id:Nat}{Q:Exit→Act→World→Prop}{a:Act}{l:List Oper}(hm:P.follows .mixedOrders=true)(hB:Region.lexB .any l.toArray=true)
  (h:wpStill P l.toArray { w with drawn:=w.drawn+1 } (fun a'=>Q .normal a' { w with drawn:=w.drawn+1 }) l a):(Code.region id l.toArray true).wpIn (eg R) 0 P Q a w:=by
 simp only[Region.lexB,z06]at hB;refine wpIn_region_any hm (u5 (Q:=fun a'=>Q .normal a' { w with drawn:=w.drawn+1 }) (fun _ h=>h) _ _ _ ?_)
 have:=wpAnyS_lex (md:= .any) hB.1 l 0 (z15 l.toArray.size false) a (by simp) (by simpa using hB.2) h
 simpa using this
theorem xq{n g:Nat}{L:Array Bool→Act→Prop}{Q':Exit→Act→World→Prop}(hL:∀listed a,L listed a→wpAnyIn (eg R) 0 P md ops Q' g listed a w):
  ∀(f:Nat) (listed:Array Bool) (a:Act),wpAnyL P md ops w n L f listed a→wpAnyIn (eg R) 0 P md ops Q' (f+g) listed a w
 |0,listed,a,h=>by rw[z17];exact hL _ _ h
 |f+1,listed,a,h=>by
  rw[show f+1+g=(f+g)+1 by omega]
  exact⟨fun h0=>absurd h0 h.1,fun i hi=>zd (fun a' h'=>xq hL f _ a' h') (h.2 i hi).2⟩
theorem ze{Q':Exit→Act→World→Prop}:∀(l:List Oper) (k:Nat) (listed:Array Bool) (a:Act) (w:World),(∀j,l[j]?=ops[k+j]?)→
  Region.seqB md ops l.length k listed=true→wpListIn (eg R) 0 P ops Q' l a w→wpAnyIn (eg R) 0 P md ops Q' l.length listed a w
 |[],_,_,_,_,_,hB,h=>⟨by simpa[Region.seqB]using hB,h⟩
 |o::l,k,listed,a,w,hl,hB,h=>by
  have h0:ops[k]?=some o:=by simpa using(hl 0).symm
  simp only[List.length_cons,Region.seqB,z06,decide_eq_true_eq]at hB;refine⟨fun h1=>(by rw[hB.1]at h1;cases h1),fun i hi=> ?_⟩
  rw[hB.1]at hi;have hik:i=k:=by simpa using hi
  subst hik;have hw:wpOpIn (eg R) 0 P ops Q' i (wpListIn (eg R) 0 P ops Q' l) a w:=by unfold wpOpIn;simp only[h0];exact h
  exact wpOpIn_mono (fun a' w' h'=>ze l (i+1) _ a' w' (fun j=>by have:=hl (j+1);simpa[Nat.add_assoc,Nat.add_comm 1 j]using this) hB.2 h') hw
theorem xk{id:Nat}{Q:Exit→Act→World→Prop}{a:Act}{l:List Oper}(n:Nat)(hm:P.follows .mixedOrders=true)(hB:Region.lexTailB .any l.toArray n=true)
  (h:wpStill P l.toArray { w with drawn:=w.drawn+1 } (fun a'=>wpListIn (eg R) 0 P l.toArray Q (l.drop n) a' { w with drawn:=w.drawn+1 }) (l.take n) a):(Code.region id l.toArray true).wpIn (eg R) 0 P Q a w:=by
 simp only[Region.lexTailB,z06,decide_eq_true_eq]at hB;obtain⟨⟨⟨⟨hsel,hn⟩,hs⟩,hc⟩,hlex⟩:=hB;have hn':n<l.length:=by simpa using hn
 have htl:(l.take n).length=n:=by simp;omega
 have hdl:(l.drop n).length=l.toArray.size-n:=by simp
 have inv0:HeadInv .any l.toArray n (z15 l.toArray.size false):=
  ⟨by simp,fun j oj _ hl=>(by rw[getD_replicate_false]at hl;cases hl),fun t _ ht=>getD_in (by simpa using ht) (getD_replicate_false _ _)⟩
 have H:=wpAnyL_lex (md:= .any) (g:=l.toArray.size-n) hsel hs hc hn (l.take n) 0 _ a (fun j hj=>by
  have hj':j<n:=by rw[htl]at hj;exact hj
  simp[hj']) (by simpa using htl) inv0 (by rw[htl];exact hlex) h
 refine wpIn_region_any hm ?_;have:=xq (R:=R) (Q':=Q) (g:=l.toArray.size-n) (fun listed a' hL=>by
  have:=ze (R:=R) (md:= .any) (Q':=Q) (l.drop n) n listed a' { w with drawn:=w.drawn+1 } (fun j=>by simp[z09]) (by rw[hdl];exact hL.1) hL.2
  rwa [hdl]at this) _ _ _ H
 rw[htl,show n+(l.toArray.size-n)=l.toArray.size by omega]at this
 exact this
end
section
variable {P : Program} {R : Option Nat} {Φ : Exit → Cx → St → Prop} {k : List It} {C : Cx} {s : St}
theorem AW.still{id:Nat}{l:List Oper}(hm:P.follows .mixedOrders=true)(hB:Region.lexB .any l.toArray=true)(h:AT P R l.toArray C (fun s'=>AW P R Φ .normal k C s') l s):AW P R Φ .normal (.code (.region id l.toArray true)::k) C s:=fun B a w ha=>by
 refine D2 hm hB (h B a _ _ ha.drew (fun s' a' hs' ha'=>hs' B a' _ ha'))
theorem Qq{id:Nat}{l:List Oper}(n:Nat)(hm:P.follows .mixedOrders=true)(hB:Region.lexTailB .any l.toArray n=true)(h:AT P R l.toArray C (fun s'=>AW P R Φ .normal (.ops l.toArray (l.drop n)::k) C s') (l.take n) s):AW P R Φ .normal (.code (.region id l.toArray true)::k) C s:=fun B a w ha=>by
 refine xk n hm hB (h B a _ _ ha.drew (fun s' a' hs' ha'=>hs' B a' _ ha'))
end
end Go.Ck
namespace Go.Ck
open Go.RowKit
inductive Pass (P:Program) (s:St) (ρ:Nat→Nat):List SV→List SV→List Place→Option Place→Prop where
 |nil:Pass P s ρ [] [] [] none
 |pv {r r':List SV} {L:List Place} {m:Option Place} (p:PV) (h:Pass P s ρ r r' L m):Pass P s ρ (.pv p::r) (.pv p::r') L m
 |nilsP {r r':List SV} {L:List Place} {m:Option Place} (z:Nat) (h:Pass P s ρ r r' L m):Pass P s ρ (.nils::r) (.pv (.sl z [])::r') L m
 |nilsO {r r':List SV} {L:List Place} {m:Option Place} (e:TypeId) (h:Pass P s ρ r r' L m):Pass P s ρ (.nils::r) (.own e []::r') L m
 |nils {r r':List SV} {L:List Place} {m:Option Place} (h:Pass P s ρ r r' L m):Pass P s ρ (.nils::r) (.nils::r') L m
 |lend {r r':List SV} {L:List Place} {m:Option Place} {p:Place} {e:TypeId} {z:Nat} {xs:List PV} (hp:s.at p=some (.own e xs)) (hz:P.cellsOf e=z) (h:Pass P s ρ r r' L m):Pass P s ρ (.al p::r) (.pv (.sl z xs)::r') (p::L) m
 |lendV {r r':List SV} {L:List Place} {m:Option Place} {p:Place} {e:TypeId} {z off n:Nat} {xs ys:List PV} (hp:s.at p=some (.own e xs)) (hz:P.cellsOf e=z) (hy:ys=(xs.drop off).take n) (h:Pass P s ρ r r' L m):Pass P s ρ (.vw p e off n::r) (.pv (.sl z ys)::r') (p::L) m
 |move {r r':List SV} {L:List Place} {p:Place} {e:TypeId} {xs:List PV} (hp:s.at p=some (.own e xs)) (h:Pass P s ρ r r' L none):Pass P s ρ (.al p::r) (.own e xs::r') L (some p)
 |ptr {r r':List SV} {L:List Place} {m:Option Place} {q o off:Nat} (ho:q=ρ o) (h:Pass P s ρ r r' L m):Pass P s ρ (.ptr q off::r) (.ptr o off::r') L m
 |fn {r r':List SV} {L:List Place} {m:Option Place} {f:FuncId} {caps caps':List SV} (hc:caps'=caps.map (SV.ren1 ρ)) (h:Pass P s ρ r r' L m):Pass P s ρ (.fn f caps'::r) (.fn f caps::r') L m
 |lendO {r r':List SV} {L:List Place} {m:Option Place} {o off n:Nat} {e:TypeId} {cs:List SV} {xs:List PV} (hp:aj o s.hp=some (.cells e cs)) (hx:(cs.drop off).take n=xs.map SV.pv) (hn:xs.length=n) (h1:xs.all PV.one=true) (hb:n≤maxLen) (h:Pass P s ρ r r' L m):Pass P s ρ (.os o off n::r) (.pv (.sl 1 xs)::r') (.part o 0::L) m
 |mp {r r':List SV} {L:List Place} {m:Option Place} {q o:Nat} (ho:q=ρ o) (h:Pass P s ρ r r' L m):Pass P s ρ (.mp q::r) (.mp o::r') L m
 |os {r r':List SV} {L:List Place} {m:Option Place} {q o off n:Nat} (ho:q=ρ o) (h:Pass P s ρ r r' L m):Pass P s ρ (.os q off n::r) (.os o off n::r') L m
 |agg {r r':List SV} {L:List Place} {m:Option Place} {cs:List SV} {ps:List PV} (ht:thaw cs=some ps) (h:Pass P s ρ r r' L m):Pass P s ρ (.agg cs::r) (.pv (.agg ps)::r') L m
section
variable {P : Program} {O0 : Base} {F : Nat → Prop} {w0 w : World} {s : St} {E : Env} {tmps : Array Value}
inductive AF (P:Program) (A:Nat→Prop) (s:St) (E:Env) (w:World) (ρ:Nat→Nat):List SV→List Value→Option Place→Prop where
 |nil:AF P A s E w ρ [] [] none
 |nilO {cs:List SV} {xs:List Value} {m:Option Place} (e:TypeId) (h:AF P A s E w ρ cs xs m):AF P A s E w ρ (.own e []::cs) (.slice none 0 0::xs) m
 |move {cs:List SV} {xs:List Value} {p:Place} {e:TypeId} {ys:List PV} (hp:s.at p=some (.own e ys)) (h:AF P A s E w ρ cs xs none):AF P A s E w ρ (.own e ys::cs) (E.hdr p::xs) (some p)
 |easy {cs:List SV} {xs:List Value} {m:Option Place} {c:SV} {x:Value} (he:c.easy=true) (hon:∀q,c.on q=false) (hr:∀Ec:Env,(∀o,Ec.obj o=E.obj (ρ o))→RS P A Ec w c x) (h:AF P A s E w ρ cs xs m):AF P A s E w ρ (c::cs) (x::xs) m
theorem ki.view{A A':Nat→Prop}{e off n:Nat}{hd x:Value}{xs:List PV}(h:ki P A w e hd xs)(hv:VW P hd e off n x)(hA:∀b,¬A b→¬A' b)(hb:∀b,hd.ownBlock=some b→¬A' b):RO A' w (.sl (P.cellsOf e) ((xs.drop off).take n)) x:=by
 obtain⟨cs,h1,h2,h3,h4⟩:=h;obtain⟨⟨a,len,cap,e1,hle⟩,a',cap',rfl,hcap,hblk⟩:=hv;have hlen:len=xs.length:=by
  rcases h1.2 with⟨e2,h0⟩|⟨g,cap2,cur,e2,_⟩
  ·rw[e1]at e2;simp at e2;omega
  ·rw[e1]at e2;simpa using(Value.slice.inj e2).2.1
 subst hlen;have hyl:((xs.drop off).take n).length=n:=by simp;omega
 have hmul:off*P.cellsOf e+n*P.cellsOf e≤xs.length*P.cellsOf e:=by rw[←Nat.add_mul];exact Nat.mul_le_mul_right _ hle
 have hfl:da ((xs.drop off).take n)=((da xs).drop (off*P.cellsOf e)).take (n*P.cellsOf e):=by
  rw[ol (fun x hx=>h3 x (z14 hx)),u0 h3]
 have key:=mm (A:=A') (w:=w) (z:=P.cellsOf e) (xs:=(xs.drop off).take n) (vs:=(cs.drop (off*P.cellsOf e)).take (n*P.cellsOf e)) (a:=a') (cap:=cap') (by rw[hfl];exact((h2.sub hA).drop _).take _) (fun i v hv=> ?_) (fun x hx=>h3 x (z14 (List.mem_of_mem_take hx))) (by rw[hyl];omega) (by rw[hyl];exact hcap)
 ·rw[hyl]at key;exact key
 ·have hi:i<n*P.cellsOf e:=by
   rcases Nat.lt_or_ge i (n*P.cellsOf e)with h5|h5
   ·exact h5
   ·rw[z08,if_neg (by omega)]at hv;cases hv
  rw[z08,if_pos hi,z09]at hv;have hn:0<n:=by
   rcases Nat.eq_zero_or_pos n with h5|h5
   ·subst h5;simp at hi
   ·exact h5
  obtain⟨b,hb',rfl⟩:=hblk hn;refine⟨_,rfl,hb b hb', ?_⟩;have:=h1.cells hb' _ v hv;rw[gd,z17]at this;rw[gd];exact this
def Y4(s:St)(E:Env)(p:Place)(b:Nat):Prop:=((E.hdr p).ownBlock=some b∧∃e xs,s.at p=some (.own e xs))∨∃o i y,p= .part o i∧aj o s.hp=some y∧E.obj o=b
theorem sk:∀ {xs:List PV},xs.all PV.one=true→da xs=xs
 |[],_=>rfl
 |x::r,h=>by
  simp only[List.all_cons,z06]at h;rw[jq,sk h.2];cases x<;>first|rfl|(simp[PV.one]at h)
theorem Pv(h:Rel P O0 w0 F s E tmps w){ρ:Nat→Nat}{Lt:Nat→Prop}{svs args:List SV}{L:List Place}{m:Option Place}(hp:Pass P s ρ svs args L m):
  ∀ {vals:List Value},vals.length=svs.length→(∀(i:Nat) (v:SV) (x:Value),svs[i]?=some v→vals[i]?=some x→RS P (fun b=>E.om b∨F b) E w v x)→(∀p∈L,∀b,Y4 s E p b→Lt b)→
   AF P (fun b=>(E.om b∨F b)∧¬Lt b) s E w ρ args vals m:=by
 induction hp with
 |nil=>
  intro vals hl _ _;rw[List.eq_nil_of_length_eq_zero hl];exact .nil
 |pv p _ ih=>
  intro vals hl hv hL;obtain⟨x,vals,rfl⟩:∃x r,vals=x::r:=by cases vals with|nil=>simp at hl|cons x r=>exact⟨x,r,rfl⟩
  have h0:=hv 0 _ x rfl rfl;have ht:=ih (vals:=vals) (by simpa using hl) (fun i v x h1 h2=>hv (i+1) v x (by simpa using h1) (by simpa using h2)) hL
  cases h0 with|pv _ _ h0=>exact .easy rfl (fun _=>rfl) (fun Ec _=> .pv _ _ (h0.sub (fun b hn h1=>hn h1.1))) ht
 |nilsP z _ ih=>
  intro vals hl hv hL;obtain⟨x,vals,rfl⟩:∃x r,vals=x::r:=by cases vals with|nil=>simp at hl|cons x r=>exact⟨x,r,rfl⟩
  have h0:=hv 0 _ x rfl rfl;have ht:=ih (vals:=vals) (by simpa using hl) (fun i v x h1 h2=>hv (i+1) v x (by simpa using h1) (by simpa using h2)) hL
  cases h0
  exact .easy rfl (fun _=>rfl) (fun Ec _=> .pv _ _ (mm (vs:=[]) (iu.nil _ _) (by simp) (by simp) (by simp) (by simp))) ht
 |nilsO e _ ih=>
  intro vals hl hv hL;obtain⟨x,vals,rfl⟩:∃x r,vals=x::r:=by cases vals with|nil=>simp at hl|cons x r=>exact⟨x,r,rfl⟩
  have h0:=hv 0 _ x rfl rfl;have ht:=ih (vals:=vals) (by simpa using hl) (fun i v x h1 h2=>hv (i+1) v x (by simpa using h1) (by simpa using h2)) hL
  cases h0
  exact .nilO e ht
 |nils _ ih=>
  intro vals hl hv hL;obtain⟨x,vals,rfl⟩:∃x r,vals=x::r:=by cases vals with|nil=>simp at hl|cons x r=>exact⟨x,r,rfl⟩
  have h0:=hv 0 _ x rfl rfl;have ht:=ih (vals:=vals) (by simpa using hl) (fun i v x h1 h2=>hv (i+1) v x (by simpa using h1) (by simpa using h2)) hL
  cases h0
  exact .easy rfl (fun _=>rfl) (fun Ec _=> .nils) ht
 |lend hp hz _ ih=>
  intro vals hl hv hL;obtain⟨x,vals,rfl⟩:∃x r,vals=x::r:=by cases vals with|nil=>simp at hl|cons x r=>exact⟨x,r,rfl⟩
  have h0:=hv 0 _ x rfl rfl;have ht:=ih (vals:=vals) (by simpa using hl) (fun i v x h1 h2=>hv (i+1) v x (by simpa using h1) (by simpa using h2)) (fun p hp=>hL p (by simp[hp]))
  have hx:=h0.al_inv;subst hx;subst hz;refine .easy rfl (fun _=>rfl) (fun Ec _=> .pv _ _ (Nt ((h.own hp).kept (fun b _ hn=>⟨fun h1=>hn h1.1,rfl⟩) (fun _ _=>rfl)) (fun b hb h1=>h1.2 (hL _ (by simp) b (.inl ⟨hb,_,_,hp⟩))))) ht
 |lendV hp hz hy _ ih=>
  intro vals hl hv hL;obtain⟨x,vals,rfl⟩:∃x r,vals=x::r:=by cases vals with|nil=>simp at hl|cons x r=>exact⟨x,r,rfl⟩
  have h0:=hv 0 _ x rfl rfl;have ht:=ih (vals:=vals) (by simpa using hl) (fun i v x h1 h2=>hv (i+1) v x (by simpa using h1) (by simpa using h2)) (fun p hp=>hL p (by simp[hp]))
  cases h0 with|vw _ _ _ _ _ h0=> ?_
  subst hz;subst hy;refine .easy rfl (fun _=>rfl) (fun Ec _=> .pv _ _ ((h.own hp).view h0 (fun b hn h1=>hn h1.1) (fun b hb h1=>h1.2 (hL _ (by simp) b (.inl ⟨hb,_,_,hp⟩))))) ht
 |lendO hp hx hn h1 hb _ ih=>
  rename_i o off n e cs xs hpass;intro vals hl hv hL;obtain⟨x,vals,rfl⟩:∃x r,vals=x::r:=by cases vals with|nil=>simp at hl|cons x r=>exact⟨x,r,rfl⟩
  have h0:=hv 0 _ x rfl rfl;have ht:=ih (vals:=vals) (by simpa using hl) (fun i v x h1 h2=>hv (i+1) v x (by simpa using h1) (by simpa using h2)) (fun p hp=>hL p (by simp[hp]))
  cases h0 with|os _ _ _ cap hc=> ?_
  have hcell:∀(i:Nat) (q:PV),xs[i]?=some q→∃v,w.cell? ⟨E.obj o,off+i,none⟩=some v∧RO (fun b=>E.om b∨F b) w q v:=by
   intro i q hq;have hi:i<xs.length:=(z11.1 hq).1;have hat:s.at (.cell o (off+i))=some (.pv q):=by
    simp only[St.at,hp];have:=congrArg (fun l=>l[i]?) hx
    simp only[z00,hq,z05]at this;rw[z08,if_pos (by omega),z09]at this
    exact this
   obtain⟨v,hv1,hv2⟩:=h.place _ _ hat;refine⟨v,hv1, ?_⟩;have hv3:RS P (fun b=>E.om b∨F b) E w (.pv q) v:=hv2
   cases hv3 with|pv _ _ hv3=>exact hv3
  subst hn;have hvs:∀(i:Nat) (v:Value),((z18 xs.length).map fun i=>(w.cell? ⟨E.obj o,off+i,none⟩).getD undef)[i]?=some v→∃q,xs[i]?=some q∧w.cell? ⟨E.obj o,off+i,none⟩=some v∧RO (fun b=>E.om b∨F b) w q v:=by
   intro i v hv;rw[z00,z03]at hv;obtain⟨j,hj,rfl⟩:=hv;have hji:j<xs.length∧j=i:=by
    have hlt:=(z11.1 hj).1;rw[List.length_range]at hlt;rw[List.getElem?_range hlt]at hj;cases hj
    exact⟨hlt,rfl⟩
   obtain⟨hlt,rfl⟩:=hji;obtain⟨v,k1,k2⟩:=hcell j _ (z13 hlt);exact⟨_,z13 hlt,by rw[k1];rfl,by rw[k1];exact k2⟩
  have hA:¬((E.om (E.obj o)∨F (E.obj o))∧¬Lt (E.obj o)):=fun h2=>h2.2 (hL (.part o 0) (by simp) _ (.inr ⟨o,0,_,rfl,hp,rfl⟩))
  refine .easy rfl (fun _=>rfl) (fun Ec _=> .pv _ _ (mm (vs:=(z18 xs.length).map fun i=>(w.cell? ⟨E.obj o,off+i,none⟩).getD undef) ⟨by rw[sk h1];simp,fun c hc=>by rw[sk h1]at hc;exact z02.1 h1 c hc,fun i c v hc hv=> ?_⟩ (fun i v hv=> ?_) (fun q hq=> ?_) hb hc)) ht
  ·rw[sk h1]at hc;obtain⟨q,k1,k2,k3⟩:=hvs i v hv;rw[k1]at hc;cases hc
   exact k3.sub (fun b hn h1=>hn h1.1)
  ·obtain⟨q,k1,k2,k3⟩:=hvs i v hv;exact⟨_,rfl,hA,by rw[gd];exact k2⟩
  ·have:=z02.1 h1 q hq;cases q<;>first|rfl|simp[PV.one]at this
 |move hp _ ih=>
  intro vals hl hv hL;obtain⟨x,vals,rfl⟩:∃x r,vals=x::r:=by cases vals with|nil=>simp at hl|cons x r=>exact⟨x,r,rfl⟩
  have h0:=hv 0 _ x rfl rfl;have ht:=ih (vals:=vals) (by simpa using hl) (fun i v x h1 h2=>hv (i+1) v x (by simpa using h1) (by simpa using h2)) hL
  have hx:=h0.al_inv;subst hx;exact .move hp ht
 |ptr ho _ ih=>
  intro vals hl hv hL;obtain⟨x,vals,rfl⟩:∃x r,vals=x::r:=by cases vals with|nil=>simp at hl|cons x r=>exact⟨x,r,rfl⟩
  have h0:=hv 0 _ x rfl rfl;have ht:=ih (vals:=vals) (by simpa using hl) (fun i v x h1 h2=>hv (i+1) v x (by simpa using h1) (by simpa using h2)) hL
  subst ho;refine .easy rfl (fun _=>rfl) (fun Ec hEc=>RS.unren (v:= .ptr _ _) (ρ:=ρ) h0 (fun b hn h1=>hn h1.1) (fun o _=>(hEc o).symm) (fun _=>rfl)) ht
 |mp ho _ ih=>
  intro vals hl hv hL;obtain⟨x,vals,rfl⟩:∃x r,vals=x::r:=by cases vals with|nil=>simp at hl|cons x r=>exact⟨x,r,rfl⟩
  have h0:=hv 0 _ x rfl rfl;have ht:=ih (vals:=vals) (by simpa using hl) (fun i v x h1 h2=>hv (i+1) v x (by simpa using h1) (by simpa using h2)) hL
  subst ho;refine .easy rfl (fun _=>rfl) (fun Ec hEc=>RS.unren (v:= .mp _) (ρ:=ρ) h0 (fun b hn h1=>hn h1.1) (fun o _=>(hEc o).symm) (fun _=>rfl)) ht
 |os ho _ ih=>
  intro vals hl hv hL;obtain⟨x,vals,rfl⟩:∃x r,vals=x::r:=by cases vals with|nil=>simp at hl|cons x r=>exact⟨x,r,rfl⟩
  have h0:=hv 0 _ x rfl rfl;have ht:=ih (vals:=vals) (by simpa using hl) (fun i v x h1 h2=>hv (i+1) v x (by simpa using h1) (by simpa using h2)) hL
  subst ho;refine .easy rfl (fun _=>rfl) (fun Ec hEc=>RS.unren (v:= .os _ _ _) (ρ:=ρ) h0 (fun b hn h1=>hn h1.1) (fun o _=>(hEc o).symm) (fun _=>rfl)) ht
 |fn hc _ ih=>
  intro vals hl hv hL;obtain⟨x,vals,rfl⟩:∃x r,vals=x::r:=by cases vals with|nil=>simp at hl|cons x r=>exact⟨x,r,rfl⟩
  have h0:=hv 0 _ x rfl rfl;have ht:=ih (vals:=vals) (by simpa using hl) (fun i v x h1 h2=>hv (i+1) v x (by simpa using h1) (by simpa using h2)) hL
  subst hc;refine .easy rfl (fun _=>rfl) (fun Ec hEc=>RS.unren (v:= .fn _ _) (ρ:=ρ) h0 (fun b hn h1=>hn h1.1) (fun o _=>(hEc o).symm) (fun _=>rfl)) ht
 |agg ht' _ ih=>
  intro vals hl hv hL;obtain⟨x,vals,rfl⟩:∃x r,vals=x::r:=by cases vals with|nil=>simp at hl|cons x r=>exact⟨x,r,rfl⟩
  have h0:=hv 0 _ x rfl rfl;have ht:=ih (vals:=vals) (by simpa using hl) (fun i v x h1 h2=>hv (i+1) v x (by simpa using h1) (by simpa using h2)) hL
  cases h0 with|agg _ vs hl' h1 h2=> ?_
  obtain⟨k1,k2,k3⟩:=Jl hl' h2 ht';exact .easy rfl (fun _=>rfl) (fun Ec _=> .pv _ _ (.agg _ _ (by simpa using k1) k2 (fun i c v hc hv=>(k3 i c v hc (by simpa using hv)).sub (fun b hn h1=>hn h1.1)))) ht
theorem AF.facts{A:Nat→Prop}{ρ:Nat→Nat}{args:List SV}{vals:List Value}{m:Option Place}(h:AF P A s E w ρ args vals m):vals.length=args.length∧
  (∀(i:Nat) (c:SV) (x:Value),args[i]?=some c→vals[i]?=some x→(∃e,c= .own e []∧x= .slice none 0 0)∨(∃e ys p,c= .own e ys∧m=some p∧s.at p=some (.own e ys)∧x=E.hdr p)∨(c.easy=true∧(∀q,c.on q=false)∧∀Ec:Env,(∀o,Ec.obj o=E.obj (ρ o))→RS P A Ec w c x))∧
  (m=none→∀(i:Nat) (e:TypeId) (ys:List PV) (x:Value),args[i]?=some (.own e ys)→vals[i]?=some x→x.ownBlock=none)∧
  ∀(i j:Nat) (e:TypeId) (xs:List PV) (e':TypeId) (ys:List PV) (x y:Value) (b b':Nat),args[i]?=some (.own e xs)→args[j]?=some (.own e' ys)→vals[i]?=some x→vals[j]?=some y→x.ownBlock=some b→y.ownBlock=some b'→i=j:=by
 induction h with
 |nil=>exact⟨rfl,by simp,by simp,by simp⟩
 |nilO e h ih=>
  obtain⟨h1,h2,h3,h4⟩:=ih;refine⟨by simp[h1],fun i c x hc hx=> ?_,fun hm i e' ys x hc hx=> ?_,fun i j e1 xs e2 ys x y b b' hi hj hx hy hb hb'=> ?_⟩
  ·cases i with
   |zero=>simp at hc hx;subst hc;subst hx;exact .inl ⟨e,rfl,rfl⟩
   |succ i=>exact h2 i c x (by simpa using hc) (by simpa using hx)
  ·cases i with
   |zero=>simp at hx;subst hx;rfl
   |succ i=>exact h3 hm i e' ys x (by simpa using hc) (by simpa using hx)
  ·cases i with
   |zero=>simp at hx;subst hx;cases hb
   |succ i=>
    cases j with
    |zero=>simp at hy;subst hy;cases hb'
    |succ j=>rw[h4 i j e1 xs e2 ys x y b b' (by simpa using hi) (by simpa using hj) (by simpa using hx) (by simpa using hy) hb hb']
 |move hp h ih=>
  obtain⟨h1,h2,h3,h4⟩:=ih;refine⟨by simp[h1],fun i c x hc hx=> ?_,fun hm=>(by cases hm),fun i j e1 xs e2 ys x y b b' hi hj hx hy hb hb'=> ?_⟩
  ·cases i with
   |zero=>simp at hc hx;subst hc;subst hx;exact .inr (.inl ⟨_,_,_,rfl,rfl,hp,rfl⟩)
   |succ i=>
    rcases h2 i c x (by simpa using hc) (by simpa using hx)with k|⟨_,_,_,_,k,_⟩|k
    ·exact .inl k
    ·cases k
    ·exact .inr (.inr k)
  ·cases i with
   |zero=>
    cases j with
    |zero=>rfl
    |succ j=>rw[h3 rfl j e2 ys y (by simpa using hj) (by simpa using hy)]at hb';cases hb'
   |succ i=>rw[h3 rfl i e1 xs x (by simpa using hi) (by simpa using hx)]at hb;cases hb
 |easy he hon hr h ih=>
  obtain⟨h1,h2,h3,h4⟩:=ih;refine⟨by simp[h1],fun i c x hc hx=> ?_,fun hm i e' ys x hc hx=> ?_,fun i j e1 xs e2 ys x y b b' hi hj hx hy hb hb'=> ?_⟩
  ·cases i with
   |zero=>simp at hc hx;subst hc;subst hx;exact .inr (.inr ⟨he,hon,hr⟩)
   |succ i=>exact h2 i c x (by simpa using hc) (by simpa using hx)
  ·cases i with
   |zero=>simp at hc;subst hc;simp[SV.easy]at he
   |succ i=>exact h3 hm i e' ys x (by simpa using hc) (by simpa using hx)
  ·cases i with
   |zero=>simp at hi;subst hi;simp[SV.easy]at he
   |succ i=>
    cases j with
    |zero=>simp at hj;subst hj;simp[SV.easy]at he
    |succ j=>rw[h4 i j e1 xs e2 ys x y b b' (by simpa using hi) (by simpa using hj) (by simpa using hx) (by simpa using hy) hb hb']
end
end Go.Ck
namespace Go.Ck
open Go.RowKit
def Yr(q:Nat)(h:HO)(hp:List (Nat×HO)):List (Nat×HO):=match aj q hp with
 |some _=>setObj q h hp
 |none=>(q,h)::hp
def o9(ρ:Nat→Nat):List (Nat×HO)→List (Nat×HO)→List (Nat×HO)
 |[],hp=>hp
 |(o,h)::r,hp=>o9 ρ r (Yr (ρ o) (h.ren ρ) hp)
theorem Jz(q:Nat)(h:HO)(hp:List (Nat×HO))(p:Nat):aj p (Yr q h hp)=if p=q then some h else aj p hp:=by
 unfold Yr;split
 ·rename_i x hx;rw[dm];split
  ·rw[hx];rfl
  ·rfl
 ·simp only[aj];by_cases h1:q=p
  ·subst h1;simp
  ·rw[if_neg h1,if_neg (fun h2=>h1 h2.symm)]
def bk(H:List (Nat×HO)):List Nat:=H.map (·.1)
theorem ib{H:List (Nat×HO)}{o:Nat}{y:HO}(h:aj o H=some y):(o,y)∈H:=by
 induction H with
 |nil=>simp[aj]at h
 |cons a r ih=>
  obtain⟨k,v⟩:=a;simp only[aj]at h;split at h
  ·rename_i e;subst e;cases h;simp
  ·exact List.mem_cons_of_mem _ (ih h)
theorem ow{H:List (Nat×HO)}{o:Nat}(h:o∈bk H):∃y,aj o H=some y:=by
 induction H with
 |nil=>simp[bk]at h
 |cons a r ih=>
  obtain⟨k,v⟩:=a;simp only[aj];by_cases e:k=o
  ·exact⟨v,by rw[if_pos e]⟩
  ·rw[if_neg e];refine ih ?_;simp only[bk,z04,z01]at h;rcases h with h|h
   ·exact absurd h.symm e
   ·exact h
theorem zt(ρ:Nat→Nat):∀(H' hp:List (Nat×HO)) (q:Nat),(∀o∈bk H',ρ o≠q)→aj q (o9 ρ H' hp)=aj q hp
 |[],hp,q,_=>rfl
 |(o,h)::r,hp,q,hq=>by
  simp only[o9];rw[zt ρ r _ q (fun o' ho'=>hq o' (by simp only[bk,z04,z01];exact .inr ho')),Jz,if_neg (fun h1=>hq o (by simp[bk]) h1.symm)]
theorem Is(ρ:Nat→Nat):∀(H' hp:List (Nat×HO)) (o:Nat) (y:HO),(bk H').Nodup→(∀a∈bk H',∀b∈bk H',ρ a=ρ b→a=b)→aj o H'=some y→aj (ρ o) (o9 ρ H' hp)=some (y.ren ρ)
 |[],hp,o,y,_,_,h=>by simp[aj]at h
 |(k,v)::r,hp,o,y,hn,hi,h=>by
  simp only[bk,z04,List.nodup_cons]at hn;simp only[o9];simp only[aj]at h;split at h
  ·rename_i e;subst e
   cases h
   rw[zt ρ r _ _ (fun a ha he=>hn.1 (by
    have:=hi a (by simp only[bk,z04,z01];exact .inr ha) k (by simp[bk]) he
    subst this;exact ha)),Jz,if_pos rfl]
  ·exact Is ρ r _ o y hn.2 (fun a ha b hb=>hi a (by simp only[bk,z04,z01];exact .inr ha) b (by simp only[bk,z04,z01];exact .inr hb)) h
def yc:SV→Bool
 | .al _| .vw _ _ _ _| .ea _ _ _ _| .tup _| .dead=>false
 |_=>true
def tg(d:Nat)(vs:List SV)(s:St):St:=if d<s.n then setSlot d (.tup vs) (clear d s)else s
def lh(ρ:Nat→Nat)(d:Nat)(rs:List SV)(s:St):St:=match rs with
 |[r]=>put d (r.ren ρ) s
 |rs=>tg d (rs.map (SV.ren ρ)) s
def iz(m:Option Place)(s:St):St:=match m with
 |some p=>xy p s
 |none=>s
section
variable {P : Program} {O0 : Base} {F : Nat → Prop} {w0 w : World} {s : St} {E : Env} {tmps : Array Value}
theorem F0{r:SV}(h:yc r=true):(∃e xs,r= .own e xs)∨(r.easy=true∧(∀q,r.on q=false)∧r≠ .dead):=by
 cases r<;>simp[yc]at h<;>first|exact .inl ⟨_,_,rfl⟩|exact .inr ⟨rfl,fun _=>rfl,by simp⟩
theorem Ro(ρ:Nat→Nat)(v:SV):(v.ren ρ).easy=v.easy:=by cases v<;>rfl
theorem mn(h:Rel P O0 w0 F s E tmps w){ρ:Nat→Nat}{rs:List SV}{us:List Value}(d:Nat)(hl:us.length=rs.length)(hok:rs.all yc=true)
  (hr:∀(i:Nat) (r:SV) (x:Value),rs[i]?=some r→us[i]?=some x→
   (∀e xs,r= .own e xs→ki P (fun b=>E.om b∨F b) w e x xs∧(∀b,x.ownBlock=some b→E.om b∧jm s E b)∧
    ∀(j:Nat) (e':TypeId) (ys:List PV) (y:Value) (b:Nat),rs[j]?=some (.own e' ys)→us[j]?=some y→x.ownBlock=some b→y.ownBlock=some b→i=j)∧
   (r.easy=true→(∀q,r.on q=false)→r= .dead∨RS P (fun b=>E.om b∨F b) E w (r.ren ρ) x)∧∀o,r.pts o=true→∃z,aj (ρ o) s.hp=some z):
  ∃E',Rel P O0 w0 F (lh ρ d rs s) E' (tmps.setIfInBounds d (ve us)) w:=by
 have gen:rs.length≠1→∃E',Rel P O0 w0 F (tg d (rs.map (SV.ren ρ)) s) E' (tmps.setIfInBounds d (.tuple us.toArray)) w:=by
  intro hne;unfold tg;split
  ·rename_i hd;obtain⟨hc,hf⟩:=h.clear d;refine hc.putTup (by rw[ti];exact hd) hf (by simpa using hl) (fun i v x hv hx=> ?_) (fun i j e xs e' ys x y b hi hj hx hy hb hb'=> ?_)
   ·rw[z00,z03]at hv;obtain⟨r,hri,rfl⟩:=hv;obtain⟨k1,k2,k3⟩:=hr i r x hri hx;rcases F0 (z02.1 hok r (z07 hri))with⟨e,xs,rfl⟩|⟨h1,h2,h3⟩
    ·obtain⟨a1,a2,a3⟩:=k1 e xs rfl;exact⟨a1,fun b hb=>⟨(a2 b hb).1,(a2 b hb).2.clear d⟩⟩
    ·have hrs:=(k2 h1 h2).resolve_left h3;have hp:∀o,(r.ren ρ).pts o=true→∃z,aj o (Ck.clear d s).hp=some z:=by
      intro o ho;obtain⟨o',ho',rfl⟩:=Ow ho;rw[Di];exact k3 o' ho'
     have hon:∀q,(r.ren ρ).on q=false:=fun q=>by rw[H9];exact h2 q
     have he:(r.ren ρ).easy=true:=by rw[Ro];exact h1
     generalize r.ren ρ=v at*;cases v<;>simp[SV.easy]at he<;>exact⟨hon,.inr hrs,hp⟩
   ·rw[z00,z03]at hi hj;obtain⟨r,hri,hre⟩:=hi;obtain⟨r',hrj,hre'⟩:=hj;rw[Zi]at hre hre';subst hre;subst hre'
    exact((hr i _ x hri hx).1 e xs rfl).2.2 j e' ys y b hrj hy hb hb'
  ·rename_i hd;rw[Array.setIfInBounds_eq_of_size_le (by rw[←h.size];omega)]
   exact⟨E,h⟩
 match rs,us,hl with
 |[],[],_=>exact gen (by simp)
 |r::r2::rs,u::u2::us,_=>exact gen (by simp)
 |[r],[u],_=>
  obtain⟨k1,k2,k3⟩:=hr 0 r u rfl rfl;simp only[lh,ve];rcases F0 (z02.1 hok r (by simp))with⟨e,xs,rfl⟩|⟨h1,h2,h3⟩
  ·obtain⟨a1,a2,a3⟩:=k1 e xs rfl;exact h.putOwn d a1 a2
  ·have hrs:=(k2 h1 h2).resolve_left h3;refine⟨E,h.putGood d ⟨(by rw[Ro];exact h1),(fun q hq=>by rw[H9,h2 q]at hq;cases hq),fun o ho=> ?_⟩ hrs⟩
   obtain⟨o',ho',rfl⟩:=Ow ho;exact k3 o' ho'
theorem Vt{p:Place}{q:Nat}(hq:∀i,p≠ .cell q i):aj q (xy p s).hp=aj q s.hp:=by
 unfold xy;cases p with
 |slot d=>rfl
 |part d i=>simp only[cm];split<;>rfl
 |cell o i=>
  simp only[cm];split
  ·simp only[dm];rw[if_neg (by rintro rfl;exact hq i rfl)]
   rfl
  ·rfl
theorem Pl{p:Place}{q:Nat}{y:HO}(h:aj q (xy p s).hp=some y):∃y',aj q s.hp=some y':=by
 unfold xy at h;rcases uk p .dead _ q y h with h2|⟨e,cs,i,_,h2,_⟩
 ·exact⟨y,h2⟩
 ·exact⟨_,h2⟩
end
end Go.Ck
namespace Go.Ck
open Go.RowKit
section
variable {P : Program} {O0 : Base} {F : Nat → Prop} {w0 w : World} {s : St} {E : Env} {a : Act}
def b6(s:St)(ρ:Nat→Nat)(m:Option Place)(H:List (Nat×HO)):St:=mu ((bk H).map ρ) (iz m s)
structure CallOK (s:St) (ρ:Nat→Nat) (H:List (Nat×HO)) (args:List SV) (L:List Place) (m:Option Place):Prop where
 hH:∀o y,aj o H=some y→aj (ρ o) s.hp=some (y.ren ρ)
 inj:∀o o' y y',aj o H=some y→aj o' H=some y'→ρ o=ρ o'→o=o'
 hp:∀o y c o',aj o H=some y→c∈y.list→c.pts o'=true→∃z,aj o' H=some z
 pts:∀c∈args,∀o,c.pts o=true→∃z,aj o H=some z
 lent:∀p∈L,m≠some p∧∀o y i,aj o H=some y→p≠ .cell (ρ o) i∧p≠ .part (ρ o) i
 moved:∀p,m=some p→∀o y i,aj o H=some y→p≠ .cell (ρ o) i
theorem Kg(h:Rel P O0 w0 F s E a.tmps w)(hG:Gj P (fun b=>E.om b∨F b) w){ρ:Nat→Nat}{H:List (Nat×HO)}{svs args:List SV}{L:List Place}{m:Option Place}{vals:List Value}{f:FuncId}{Ψ:List SV→List (Nat×HO)→Prop}{d:Nat}
  (hl:vals.length=svs.length) (hv:∀(i:Nat) (v:SV) (x:Value),svs[i]?=some v→vals[i]?=some x→RS P (fun b=>E.om b∨F b) E w v x) (hp:Pass P s ρ svs args L m) (hok:CallOK s ρ H args L m) (hF:Fn P f H args Ψ)
  {K:St→Prop}
  (hk:∀rs H',Ψ rs H'→rs.all yc=true∧(bk H').Nodup∧(∀o∈bk H',∀o'∈bk H',ρ o=ρ o'→o=o')∧(∀o∈bk H',aj o H=none→aj (ρ o) s.hp=none)∧(L=[]∨(rs.all SV.clo=true∧H'.all (fun y=>y.2.clo)=true))∧
   K (lh ρ d rs ⟨s.n,(b6 s ρ m H).sl,o9 ρ H' (b6 s ρ m H).hp⟩)):
  Calls P f vals.toArray w (fun
   | .returned v,w'=> ∃s',K s'∧∃E',Rel P O0 w0 F s' E' (a.tmps.setIfInBounds d v) w'
   | .panicked _,_=>False
   | .outgrown,_=>False):=by
 let Lt:Nat→Prop:=fun b=> ∃p∈L,Y4 s E p b
 have haf:=Pv h (Lt:=Lt) hp hl hv (fun p hp' b hb=>⟨p,hp',hb⟩)
 obtain⟨f1,f2,f3,f4⟩:=haf.facts;have hpown:∀p,m=some p→∃e xs,s.at p=some (.own e xs):=by
  intro p hm;subst hm;have key:∀ {svs args L m},Pass P s ρ svs args L m→∀p,m=some p→∃e xs,s.at p=some (.own e xs):=by
   intro svs args L m hp
   induction hp with
   |nil=>simp
   |move hp _ _=>intro p h1;cases h1;exact⟨_,_,hp⟩
   |pv _ _ ih=>exact ih
   |nilsP _ _ ih=>exact ih
   |nilsO _ _ ih=>exact ih
   |nils _ ih=>exact ih
   |lend _ _ _ ih=>exact ih
   |lendV _ _ _ _ ih=>exact ih
   |lendO _ _ _ _ _ _ ih=>exact ih
   |ptr _ _ ih=>exact ih
   |mp _ _ ih=>exact ih
   |os _ _ ih=>exact ih
   |fn _ _ ih=>exact ih
   |agg _ _ ih=>exact ih
  exact key hp p rfl
 have hgive:Rel P O0 w0 F (iz m s) E a.tmps w∧(∀p e xs,(iz m s).at p=some (.own e xs)→s.at p=some (.own e xs)∧m≠some p)∧(∀q y,aj q (iz m s).hp=some y→∃y',aj q s.hp=some y')∧
   (∀q,(∀p i,m=some p→p≠ .cell q i)→aj q (iz m s).hp=aj q s.hp)∧(iz m s).n=s.n:=by
  cases m with
  |none=>exact⟨h,fun p e xs h1=>⟨h1,by simp⟩,fun q y hy=>⟨y,hy⟩,fun q _=>rfl,rfl⟩
  |some p=>
   obtain⟨e,xs,hpo⟩:=hpown p rfl;obtain⟨_,_,_,h4⟩:=h.take hpo;refine⟨h4,fun q e' ys hq=> ?_,fun q y hy=>Pl hy,fun q hq=>Vt (fun i=>hq p i rfl), ?_⟩
   ·obtain⟨h5,h6⟩:=Pk (e:=e) (xs:=xs) hpo rfl hq ⟨_,nq p s hpo,rfl⟩;exact⟨h6,by simpa using fun h7=>h5 h7.symm⟩
   ·show(xy p s).n=s.n
    unfold xy;rw[vt];rfl
 obtain⟨g1,g2,g3,g4,g5⟩:=hgive;obtain⟨k1,k2,k3,k4,k4',k5⟩:=rc ((bk H).map ρ) g1;have hs1:b6 s ρ m H=mu ((bk H).map ρ) (iz m s):=rfl;have hH1:∀o y,aj o H=some y→aj (ρ o) (b6 s ρ m H).hp=some (y.ren ρ):=by
  intro o y hy;rw[hs1,k2,g4 (ρ o) (fun p i hm=>hok.moved p hm o y i hy)]
  exact hok.hH o y hy
 have hown1:∀p e xs,(b6 s ρ m H).at p=some (.own e xs)→s.at p=some (.own e xs)∧m≠some p:=fun p e xs hp'=>g2 p e xs (k4 p e xs hp')
 have hmv:∀ {i:Nat} {e:TypeId} {xs:List PV} {x:Value},args[i]?=some (SV.own e xs)→vals[i]?=some x→(xs=[]∧x= .slice none 0 0)∨∃p,m=some p∧s.at p=some (.own e xs)∧x=E.hdr p:=by
  intro i e xs x hi hx;rcases f2 i _ x hi hx with⟨e',h1,h2⟩|⟨e',ys,p,h1,h2,h3,h4⟩|⟨h1,_⟩
  ·cases h1;exact .inl ⟨rfl,h2⟩
  ·cases h1;exact .inr ⟨p,h2,h3,h4⟩
  ·simp[SV.easy]at h1
 have ha:Args P (fun b=>E.om b∨F b) (b6 s ρ m H) E ρ H Lt w args vals:=by
  refine⟨f1,fun i e xs x hi hx=> ?_,fun i c x hi hx=> ?_,fun i c o hi ho=>hok.pts c (z07 hi) o ho,fun i j e xs e' ys x y b hi hj hx hy hb hb'=>f4 i j e xs e' ys x y b b hi hj hx hy hb hb'⟩
  ·rcases hmv hi hx with⟨rfl,rfl⟩|⟨p,hm,hpo,rfl⟩
   ·exact⟨⟨[],World.ownsRow_nil w 0 _ _,iu.nil _ _,by simp,by simp⟩,by simp[Value.ownBlock]⟩
   ·obtain⟨_,t2,t3,_⟩:=h.take hpo;refine⟨t2,fun b hb=>⟨(t3 b hb).1,⟨fun o y hy=> ?_,fun q e' ys hq hqb=> ?_⟩⟩⟩
    ·rw[hs1,k2]at hy;obtain⟨y',hy'⟩:=g3 o y hy;exact h.i3 p e xs o y' b hpo hy' hb
    ·obtain⟨h5,h6⟩:=hown1 q e' ys hq;have:=h.i2 q p e' ys e xs b h5 hpo hqb hb;subst this;exact h6 hm
  ·rcases f2 i c x hi hx with⟨e',h1,h2⟩|⟨e',ys,p,h1,h2,h3,h4⟩|⟨h1,h2,h3⟩
   ·exact .inl ⟨_,_,h1⟩
   ·exact .inl ⟨_,_,h1⟩
   ·exact .inr ⟨h1,h2,h3 _ (fun _=>rfl)⟩
 have hLown:∀p∈L,(∃e xs,s.at p=some (.own e xs))∨∃o i y,p= .part o i∧aj o s.hp=some y:=by
  have key:∀ {svs args L m},Pass P s ρ svs args L m→∀p∈L,(∃e xs,s.at p=some (.own e xs))∨∃o i y,p= .part o i∧aj o s.hp=some y:=by
   intro svs args L m hp
   induction hp with
   |nil=>simp
   |lend hp _ _ ih=>exact fun q hq=>(z01.1 hq).elim (fun h1=>h1▸ .inl ⟨_,_,hp⟩) (ih q)
   |lendV hp _ _ _ ih=>exact fun q hq=>(z01.1 hq).elim (fun h1=>h1▸ .inl ⟨_,_,hp⟩) (ih q)
   |lendO hp _ _ _ _ _ ih=>exact fun q hq=>(z01.1 hq).elim (fun h1=>h1▸ .inr ⟨_,_,_,rfl,hp⟩) (ih q)
   |move _ _ ih=>exact ih
   |pv _ _ ih=>exact ih
   |nilsP _ _ ih=>exact ih
   |nilsO _ _ ih=>exact ih
   |nils _ ih=>exact ih
   |ptr _ _ ih=>exact ih
   |mp _ _ ih=>exact ih
   |os _ _ ih=>exact ih
   |fn _ _ ih=>exact ih
   |agg _ _ ih=>exact ih
  exact key hp
 have hLtom:∀b,Lt b→E.om b:=by
  rintro b ⟨p,hpL,⟨hb,e,xs,hpo⟩|⟨o,i,y,rfl,hy,rfl⟩⟩
  ·obtain⟨_,_,_,_,h4⟩:=h.place p _ hpo;exact h4 b hb
  ·exact(h.obj o y hy).1
 have hLt:∀b,Lt b→¬xz E ρ H args vals b:=by
  rintro b ⟨p,hpL,hb⟩ hc;obtain⟨hl1,hl2⟩:=hok.lent p hpL;rcases hb with⟨hb,e,xs,hpo⟩|⟨o0,i0,y0,rfl,hy0,rfl⟩
  ·rcases hc with⟨o,y,h1,h2⟩|⟨o,y,i,e',ys,h1,h2,h3⟩|⟨i,e',ys,x,h1,h2,h3⟩
   ·exact h.i3 p e xs _ _ b hpo (hok.hH o y h1) hb h2
   ·have hat:s.at (.cell (ρ o) i)=some (.own e' ys):=by
     rw[cv,hok.hH o y h1];simp only[gn,z00,h2,z05];rfl
    exact(hl2 o y i h1).1 (h.i2 _ _ _ _ _ _ b hpo hat hb h3)
   ·rcases hmv h1 h2 with⟨rfl,rfl⟩|⟨q,hm,hqo,rfl⟩
    ·simp[Value.ownBlock]at h3
    ·have:=h.i2 _ _ _ _ _ _ b hpo hqo hb h3;subst this;exact hl1 hm
  ·rcases hc with⟨o,y,h1,h2⟩|⟨o,y,i,e',ys,h1,h2,h3⟩|⟨i,e',ys,x,h1,h2,h3⟩
   ·have:=h.i1 _ _ _ _ hy0 (hok.hH o y h1) h2.symm;subst this;exact(hl2 o y i0 h1).2 rfl
   ·have hat:s.at (.cell (ρ o) i)=some (.own e' ys):=by
     rw[cv,hok.hH o y h1];simp only[gn,z00,h2,z05];rfl
    exact h.i3 _ _ _ _ _ _ hat hy0 h3 rfl
   ·rcases hmv h1 h2 with⟨rfl,rfl⟩|⟨q,hm,hqo,rfl⟩
    ·simp[Value.ownBlock]at h3
    ·exact h.i3 _ _ _ _ _ _ hqo hy0 h3 rfl
 have hent:=Ln k1 (ρ:=ρ) (H:=H) (Lt:=Lt) (args:=args) (vals:=vals) hH1 hok.inj hok.hp hLt ha;have hGc:Gj P (fun b=>xz E ρ H args vals b∨((E.om b∨F b)∧¬xz E ρ H args vals b∧¬Lt b)) w:=hG.mono (fun b _ hn=>⟨fun hc=>hn (hc.elim (fun h1=> .inl (yn k1 ha hH1 h1)) (fun h1=>h1.1)),rfl⟩) (Nat.le_refl _)
 refine(hF.2 _ w _ vals f1 hGc hent).mono (fun e w' he=> ?_)
 cases e with
 |panicked c=>exact he
 |outgrown=>exact he
 |returned v=>
  obtain⟨rs,H',E',us,hΨ,hul,rfl,hR⟩:=he;obtain⟨q1,q2,q3,q4,q5,q6⟩:=hk rs H' hΨ;have hmem:∀ {o:Nat} {y:HO} {G:List (Nat×HO)},aj o G=some y→o∈bk G:=fun hy=>z16.2 ⟨_,ib hy,rfl⟩
  have hinj':∀o o' y y',aj o H'=some y→aj o' H'=some y'→ρ o=ρ o'→o=o':=fun o o' y y' hy hy' he=>q3 o (hmem hy) o' (hmem hy') he
  have hnone:∀q,aj q s.hp=none→aj q (b6 s ρ m H).hp=none:=by
   intro q hq;cases hc:aj q (b6 s ρ m H).hp with
   |none=>rfl
   |some y=>
    rw[hs1,k2]at hc;obtain⟨y',hy'⟩:=g3 q y hc;rw[hq]at hy';cases hy'
  obtain⟨r1,r2⟩:=aq8 k1 (ρ:=ρ) (H:=H) (H':=H') (Lt:=Lt) (args:=args) (rs:=rs) (vals:=vals) (us:=us) hH1 hLtom ha hinj'
   (fun o y hy hn=>hnone _ (q4 o (hmem hy) hn))
   (fun p v q hpv hq o y i hy he=>by
    cases hl:aj o H with
    |some z=>exact k5 p v q hpv hq (ρ o) (z16.2 ⟨o,hmem hl,rfl⟩) i he
    |none=>
     obtain⟨_,⟨e,xs,h7⟩,_⟩:=k1.na p v q hpv hq;subst he;rw[cv]at h7;have h8:=hnone _ (q4 o (hmem hy) hl);rw[hs1]at h8;rw[h8]at h7;cases h7)
   hR (q5.imp (fun hL b ⟨p,hpL,_⟩=>by rw[hL]at hpL;cases hpL) (fun hc=>⟨fun r hr=>z02.1 hc.1 r hr,fun o y hy=>(by have:=z02.1 hc.2 (o,y) (ib hy);exact this)⟩))
   (hp:=o9 ρ H' (b6 s ρ m H).hp) (fun o y hy=>Is ρ H' _ o y q2 q3 hy) (fun q hq=>zt ρ H' _ q (fun o ho he=>by
    obtain⟨y,hy⟩:=ow ho;exact hq o y hy he))
  have hn1:(mu ((bk H).map ρ) (iz m s)).n=s.n:=by rw[k3,g5]
  rw[hn1]at r1 r2;obtain⟨E2,hE2⟩:=mn r1 (ρ:=ρ) d hul q1 r2;exact⟨_,q6,E2,hE2⟩
end
end Go.Ck
namespace Go.Ck
open Go.RowKit
section
variable {P : Program} {R : Option Nat} {Φ : Exit → Cx → St → Prop} {k : List It} {C : Cx} {s : St}
theorem RS.fn_inv{A:Nat→Prop}{E:Env}{w:World}{f:FuncId}{caps:List SV}{x:Value}(h:RS P A E w (.fn f caps) x):
  ∃vs:List Value,x= .func (.func f) #[] vs.toArray∧vs.length=caps.length∧∀(i:Nat) (c:SV) (v:Value),caps[i]?=some c→vs[i]?=some v→RS P A E w c v:=by
 cases h with|fn _ _ vs hl h1 h=>exact⟨vs,rfl,hl,h⟩
theorem AW.call{all:Array Oper}{o:Oper}{r:List Oper}{c:Call}{fx:Operand}{f:FuncId}{caps svs:List SV}{ρ:Nat→Nat}{H:List (Nat×HO)}{args:List SV}{L:List Place}{m:Option Place}{Ψ:List SV→List (Nat×HO)→Prop}{d:Nat}
  (hg:o.guard=none) (ho:o.op= .call c) (hd:o.dst=some d) (hc:c.callee= .value fx) (hf:ev s fx=some (.fn f caps)) (hx:evs s c.args.toList=some svs)
  (hp:Pass P s ρ (svs++caps) args L m) (hok:CallOK s ρ H args L m) (hF:Fn P f H args Ψ)
  (hk:∀rs H',Ψ rs H'→rs.all yc=true∧(bk H').Nodup∧(∀o∈bk H',∀o'∈bk H',ρ o=ρ o'→o=o')∧(∀o∈bk H',aj o H=none→aj (ρ o) s.hp=none)∧(L=[]∨(rs.all SV.clo=true∧H'.all (fun y=>y.2.clo)=true))∧
   AW P R Φ .normal (.ops all r::k) C (lh ρ d rs ⟨s.n,(b6 s ρ m H).sl,o9 ρ H' (b6 s ρ m H).hp⟩)):
  AW P R Φ .normal (.ops all (o::r)::k) C s:=fun B a w ha=>by
 simp only[mz];refine cb (by simp[Region.wanted,hg]) (fun c' hc'=>by rw[ho]at hc';cases hc') ?_
 obtain⟨fn,hfn,hname,hbody⟩:=hF.1;obtain⟨hdf,E,h⟩:=ha;obtain⟨cvs,e1,e2,e3⟩:=(cq h hf).fn_inv;obtain⟨h1,h2⟩:=lf h hx;have hrun:(execOp a.eval o).run P w= .ok (.enter f (c.args.toList.map a.eval++cvs).toArray) w:=by
  have hargs:c.args.map a.eval++cvs.toArray=(c.args.toList.map a.eval++cvs).toArray:=by apply Array.ext';simp
  have hbody':∃b,fn.body=some b:=by cases hb:fn.body with|none=>simp[hb]at hbody|some b=>exact⟨b,rfl⟩
  obtain⟨b,hb⟩:=hbody';have hname':¬fn.name= "runtime.NumGoroutine" :=by simpa using hname
  simp[execOp,ho,resolve,hc,e1,Deferred.ofValue,invoke,callFunc,hfn,hname',hb,hargs]
 rw[hrun,Oper.uponIn_enter];refine⟨fun h=>by simp[eg,Fence.wide]at h,kd ?_⟩
 have hcs:=Kg h (v8 hdf.2.2 h) (ρ:=ρ) (H:=H) (svs:=svs++caps) (args:=args) (L:=L) (m:=m) (vals:=c.args.toList.map a.eval++cvs) (f:=f) (Ψ:=Ψ) (d:=d) (by simp[e2,h1]) (fun i v x hi hxi=>by
   by_cases hlt:i<svs.length
   ·rw[z12 hlt]at hi;rw[z12 (by simp[←h1];exact hlt),z00,z03]at hxi
    obtain⟨x0,hx0,rfl⟩:=hxi;exact cq h (h2 i x0 v hx0 hi)
   ·rw[z10 (by omega)]at hi
    rw[z10 (by simp[←h1];omega)]at hxi
    have:i-(c.args.toList.map a.eval).length=i-svs.length:=by simp[←h1]
    rw[this]at hxi;exact e3 _ v x hi hxi) hp hok hF (K:=fun s'=>AW P R Φ .normal (.ops all r::k) C s') hk
 refine hcs.mono (fun e w' he=> ?_)
 cases e with
 |panicked ch=>exact he.elim
 |outgrown=>exact he.elim
 |returned v=>
  obtain⟨s',hs',E',hE'⟩:=he;refine hs' B _ w' ⟨by rw[cz];exact hdf,E', ?_⟩
  rw[hd];exact hE'
end
end Go.Ck
namespace Go.Ck
open Go.RowKit
section
variable {P : Program} {O0 : Base} {F : Nat → Prop} {w0 w : World} {s : St} {E : Env} {a : Act}
theorem arz(h:Rel P O0 w0 F s E a.tmps w){ρ:Nat→Nat}{H:List (Nat×HO)}{svs args:List SV}{L:List Place}{m:Option Place}{vals:List Value}
  (hl:vals.length=svs.length) (hv:∀(i:Nat) (v:SV) (x:Value),svs[i]?=some v→vals[i]?=some x→RS P (fun b=>E.om b∨F b) E w v x) (hp:Pass P s ρ svs args L m) (hok:CallOK s ρ H args L m):
  ∃Lt:Nat→Prop,(∀b,Lt b→E.om b)∧(∀b,Lt b→¬xz E ρ H args vals b)∧Args P (fun b=>E.om b∨F b) (b6 s ρ m H) E ρ H Lt w args vals∧Rel P O0 w0 F (b6 s ρ m H) E a.tmps w∧(∀o y,aj o H=some y→aj (ρ o) (b6 s ρ m H).hp=some (y.ren ρ)):=by
 let Lt:Nat→Prop:=fun b=> ∃p∈L,Y4 s E p b
 have haf:=Pv h (Lt:=Lt) hp hl hv (fun p hp' b hb=>⟨p,hp',hb⟩)
 obtain⟨f1,f2,f3,f4⟩:=haf.facts;have hpown:∀p,m=some p→∃e xs,s.at p=some (.own e xs):=by
  intro p hm;subst hm;have key:∀ {svs args L m},Pass P s ρ svs args L m→∀p,m=some p→∃e xs,s.at p=some (.own e xs):=by
   intro svs args L m hp
   induction hp with
   |nil=>simp
   |move hp _ _=>intro p h1;cases h1;exact⟨_,_,hp⟩
   |pv _ _ ih=>exact ih
   |nilsP _ _ ih=>exact ih
   |nilsO _ _ ih=>exact ih
   |nils _ ih=>exact ih
   |lend _ _ _ ih=>exact ih
   |lendV _ _ _ _ ih=>exact ih
   |lendO _ _ _ _ _ _ ih=>exact ih
   |ptr _ _ ih=>exact ih
   |mp _ _ ih=>exact ih
   |os _ _ ih=>exact ih
   |fn _ _ ih=>exact ih
   |agg _ _ ih=>exact ih
  exact key hp p rfl
 have hgive:Rel P O0 w0 F (iz m s) E a.tmps w∧(∀p e xs,(iz m s).at p=some (.own e xs)→s.at p=some (.own e xs)∧m≠some p)∧(∀q y,aj q (iz m s).hp=some y→∃y',aj q s.hp=some y')∧
   (∀q,(∀p i,m=some p→p≠ .cell q i)→aj q (iz m s).hp=aj q s.hp)∧(iz m s).n=s.n:=by
  cases m with
  |none=>exact⟨h,fun p e xs h1=>⟨h1,by simp⟩,fun q y hy=>⟨y,hy⟩,fun q _=>rfl,rfl⟩
  |some p=>
   obtain⟨e,xs,hpo⟩:=hpown p rfl;obtain⟨_,_,_,h4⟩:=h.take hpo;refine⟨h4,fun q e' ys hq=> ?_,fun q y hy=>Pl hy,fun q hq=>Vt (fun i=>hq p i rfl), ?_⟩
   ·obtain⟨h5,h6⟩:=Pk (e:=e) (xs:=xs) hpo rfl hq ⟨_,nq p s hpo,rfl⟩;exact⟨h6,by simpa using fun h7=>h5 h7.symm⟩
   ·show(xy p s).n=s.n
    unfold xy;rw[vt];rfl
 obtain⟨g1,g2,g3,g4,g5⟩:=hgive;obtain⟨k1,k2,k3,k4,k4',k5⟩:=rc ((bk H).map ρ) g1;have hs1:b6 s ρ m H=mu ((bk H).map ρ) (iz m s):=rfl;have hH1:∀o y,aj o H=some y→aj (ρ o) (b6 s ρ m H).hp=some (y.ren ρ):=by
  intro o y hy;rw[hs1,k2,g4 (ρ o) (fun p i hm=>hok.moved p hm o y i hy)]
  exact hok.hH o y hy
 have hown1:∀p e xs,(b6 s ρ m H).at p=some (.own e xs)→s.at p=some (.own e xs)∧m≠some p:=fun p e xs hp'=>g2 p e xs (k4 p e xs hp')
 have hmv:∀ {i:Nat} {e:TypeId} {xs:List PV} {x:Value},args[i]?=some (SV.own e xs)→vals[i]?=some x→(xs=[]∧x= .slice none 0 0)∨∃p,m=some p∧s.at p=some (.own e xs)∧x=E.hdr p:=by
  intro i e xs x hi hx;rcases f2 i _ x hi hx with⟨e',h1,h2⟩|⟨e',ys,p,h1,h2,h3,h4⟩|⟨h1,_⟩
  ·cases h1;exact .inl ⟨rfl,h2⟩
  ·cases h1;exact .inr ⟨p,h2,h3,h4⟩
  ·simp[SV.easy]at h1
 have ha:Args P (fun b=>E.om b∨F b) (b6 s ρ m H) E ρ H Lt w args vals:=by
  refine⟨f1,fun i e xs x hi hx=> ?_,fun i c x hi hx=> ?_,fun i c o hi ho=>hok.pts c (z07 hi) o ho,fun i j e xs e' ys x y b hi hj hx hy hb hb'=>f4 i j e xs e' ys x y b b hi hj hx hy hb hb'⟩
  ·rcases hmv hi hx with⟨rfl,rfl⟩|⟨p,hm,hpo,rfl⟩
   ·exact⟨⟨[],World.ownsRow_nil w 0 _ _,iu.nil _ _,by simp,by simp⟩,by simp[Value.ownBlock]⟩
   ·obtain⟨_,t2,t3,_⟩:=h.take hpo;refine⟨t2,fun b hb=>⟨(t3 b hb).1,⟨fun o y hy=> ?_,fun q e' ys hq hqb=> ?_⟩⟩⟩
    ·rw[hs1,k2]at hy;obtain⟨y',hy'⟩:=g3 o y hy;exact h.i3 p e xs o y' b hpo hy' hb
    ·obtain⟨h5,h6⟩:=hown1 q e' ys hq;have:=h.i2 q p e' ys e xs b h5 hpo hqb hb;subst this;exact h6 hm
  ·rcases f2 i c x hi hx with⟨e',h1,h2⟩|⟨e',ys,p,h1,h2,h3,h4⟩|⟨h1,h2,h3⟩
   ·exact .inl ⟨_,_,h1⟩
   ·exact .inl ⟨_,_,h1⟩
   ·exact .inr ⟨h1,h2,h3 _ (fun _=>rfl)⟩
 have hLown:∀p∈L,(∃e xs,s.at p=some (.own e xs))∨∃o i y,p= .part o i∧aj o s.hp=some y:=by
  have key:∀ {svs args L m},Pass P s ρ svs args L m→∀p∈L,(∃e xs,s.at p=some (.own e xs))∨∃o i y,p= .part o i∧aj o s.hp=some y:=by
   intro svs args L m hp
   induction hp with
   |nil=>simp
   |lend hp _ _ ih=>exact fun q hq=>(z01.1 hq).elim (fun h1=>h1▸ .inl ⟨_,_,hp⟩) (ih q)
   |lendV hp _ _ _ ih=>exact fun q hq=>(z01.1 hq).elim (fun h1=>h1▸ .inl ⟨_,_,hp⟩) (ih q)
   |lendO hp _ _ _ _ _ ih=>exact fun q hq=>(z01.1 hq).elim (fun h1=>h1▸ .inr ⟨_,_,_,rfl,hp⟩) (ih q)
   |move _ _ ih=>exact ih
   |pv _ _ ih=>exact ih
   |nilsP _ _ ih=>exact ih
   |nilsO _ _ ih=>exact ih
   |nils _ ih=>exact ih
   |ptr _ _ ih=>exact ih
   |mp _ _ ih=>exact ih
   |os _ _ ih=>exact ih
   |fn _ _ ih=>exact ih
   |agg _ _ ih=>exact ih
  exact key hp
 have hLtom:∀b,Lt b→E.om b:=by
  rintro b ⟨p,hpL,⟨hb,e,xs,hpo⟩|⟨o,i,y,rfl,hy,rfl⟩⟩
  ·obtain⟨_,_,_,_,h4⟩:=h.place p _ hpo;exact h4 b hb
  ·exact(h.obj o y hy).1
 have hLt:∀b,Lt b→¬xz E ρ H args vals b:=by
  rintro b ⟨p,hpL,hb⟩ hc;obtain⟨hl1,hl2⟩:=hok.lent p hpL;rcases hb with⟨hb,e,xs,hpo⟩|⟨o0,i0,y0,rfl,hy0,rfl⟩
  ·rcases hc with⟨o,y,h1,h2⟩|⟨o,y,i,e',ys,h1,h2,h3⟩|⟨i,e',ys,x,h1,h2,h3⟩
   ·exact h.i3 p e xs _ _ b hpo (hok.hH o y h1) hb h2
   ·have hat:s.at (.cell (ρ o) i)=some (.own e' ys):=by
     rw[cv,hok.hH o y h1];simp only[gn,z00,h2,z05];rfl
    exact(hl2 o y i h1).1 (h.i2 _ _ _ _ _ _ b hpo hat hb h3)
   ·rcases hmv h1 h2 with⟨rfl,rfl⟩|⟨q,hm,hqo,rfl⟩
    ·simp[Value.ownBlock]at h3
    ·have:=h.i2 _ _ _ _ _ _ b hpo hqo hb h3;subst this;exact hl1 hm
  ·rcases hc with⟨o,y,h1,h2⟩|⟨o,y,i,e',ys,h1,h2,h3⟩|⟨i,e',ys,x,h1,h2,h3⟩
   ·have:=h.i1 _ _ _ _ hy0 (hok.hH o y h1) h2.symm;subst this;exact(hl2 o y i0 h1).2 rfl
   ·have hat:s.at (.cell (ρ o) i)=some (.own e' ys):=by
     rw[cv,hok.hH o y h1];simp only[gn,z00,h2,z05];rfl
    exact h.i3 _ _ _ _ _ _ hat hy0 h3 rfl
   ·rcases hmv h1 h2 with⟨rfl,rfl⟩|⟨q,hm,hqo,rfl⟩
    ·simp[Value.ownBlock]at h3
    ·exact h.i3 _ _ _ _ _ _ hqo hy0 h3 rfl
 exact⟨Lt,hLtom,hLt,ha,k1,hH1⟩
theorem ao8(v:SV):v.ren1 id=v:=by cases v<;>rfl
theorem az8(v:SV):v.ren id=v:=by
 cases v<;>try rfl
 rename_i f caps;simp only[SV.ren]
 congr 1
 have:SV.ren1 id=id:=funext ao8;rw[this,List.map_id]
theorem Rel.rebase{B1:Base}{F1:Nat→Prop}{w1:World}{tmps:Array Value}(h:Rel P B1 w1 F1 s E tmps w)(hF:∀b,F b→F1 b)(hom:∀b,E.om b→O0.blk b∨w0.heap.size≤b)(hgr:Grow O0.blk w0 w)(hflt:∀b,F b→b<w0.heap.size)
  (hob:∀o b,O0.ob o=some b→E.obj o=b∧∃y,aj o s.hp=some y):Rel P O0 w0 F s E tmps w:=by
 have hA:∀b,b<w.heap.size→¬(E.om b∨F1 b)→¬(E.om b∨F b)∧w.heap[b]?=w.heap[b]?:=fun b _ hn=>⟨fun h1=>hn (h1.imp id (hF b)),rfl⟩
 refine { place:= ?_,obj:= ?_,size:=h.size,i1:=h.i1,i2:=h.i2,i3:=h.i3,om_lt:=fun b hb=>⟨(h.om_lt b hb).1,fun h1=>(h.om_lt b hb).2 (hF b h1)⟩,om0:=hom,na:=h.na,np:=h.np,gr:=hgr,flt:=hflt,ob:=hob }
 ·intro p v hp;obtain⟨x,hx,hv⟩:=h.place p v hp;refine⟨x,hx, ?_⟩;cases v<;>simp only[ip]at hv⊢
  case own e xs=>exact⟨hv.1,hv.2.1.kept hA (fun _ _=>rfl),hv.2.2⟩
  case tup vs=>exact hv
  all_goals exact hv.grow hA
 ·intro o y hl;obtain⟨h1,h2⟩:=h.obj o y hl;refine⟨h1, ?_⟩;cases y with
  |cells e cs=>exact h2
  |mp es=>
   obtain⟨ms,c,h3,h4,h5⟩:=h2;exact⟨ms,c,h3,h4,fun i kv m hk hm=>⟨(h5 i kv m hk hm).1.mono hA,(h5 i kv m hk hm).2.mono hA⟩⟩
end
end Go.Ck

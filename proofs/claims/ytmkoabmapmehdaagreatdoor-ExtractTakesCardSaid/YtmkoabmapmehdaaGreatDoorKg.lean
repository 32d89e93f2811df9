/- What is proved here: parts of the proofs of this seat's statements (a verified evaluator for calls over pure values, its laws, and contracts of functions). No condition. -/
import Derived.Test.YtmkoabmapmehdaaGreatDoorKf
import Derived.ControlIn
import Derived.ScopeJumps
import Derived.RangeFuncIn
import Derived.TacticsIn
import Derived.OrdersIn
set_option linter.all false
open List renaming mem_of_getElem?→z00,getElem?_map→z01,getElem?_eq_some_iff→z04,getElem?_toArray→z06,all_eq_true→z07
open Array renaming getElem?_setIfInBounds_ne→z02
open Option renaming map_some→z03,map_eq_some_iff→z05
namespace Go.Ck
open Go.RowKit
open Classical in
noncomputable def j5 (E E':Env) (ρ:Nat→Nat) (H':List (Nat×HO)) (Om:Nat→Prop):Env where
 obj q:=if h:∃o,(∃y,aj o H'=some y)∧ρ o=q then E'.obj (Classical.choose h)else E.obj q
 hdr p:=match p with
  | .cell q i=>if h:∃o,(∃y,aj o H'=some y)∧ρ o=q then E'.hdr (.cell (Classical.choose h) i)else E.hdr (.cell q i)
  |p=>E.hdr p
 om b:=(E.om b∧¬Om b)∨E'.om b
section
variable {E E' : Env} {ρ : Nat → Nat} {H' : List (Nat × HO)} {Om : Nat → Prop}
theorem gp(hinj:∀o o' y y',aj o H'=some y→aj o' H'=some y'→ρ o=ρ o'→o=o'){o:Nat}{y:HO}(hy:aj o H'=some y):(j5 E E' ρ H' Om).obj (ρ o)=E'.obj o:=by
 have hex:∃o',(∃y,aj o' H'=some y)∧ρ o'=ρ o:=⟨o,⟨y,hy⟩,rfl⟩
 simp only[j5];rw[dif_pos hex];obtain⟨⟨y',h1⟩,h2⟩:=Classical.choose_spec hex;rw[hinj _ _ _ _ h1 hy h2]
theorem Gg(hinj:∀o o' y y',aj o H'=some y→aj o' H'=some y'→ρ o=ρ o'→o=o'){o i:Nat}{y:HO}(hy:aj o H'=some y):(j5 E E' ρ H' Om).hdr (.cell (ρ o) i)=E'.hdr (.cell o i):=by
 have hex:∃o',(∃y,aj o' H'=some y)∧ρ o'=ρ o:=⟨o,⟨y,hy⟩,rfl⟩
 simp only[j5];rw[dif_pos hex];obtain⟨⟨y',h1⟩,h2⟩:=Classical.choose_spec hex;rw[hinj _ _ _ _ h1 hy h2]
theorem il{q:Nat}(hq:∀o y,aj o H'=some y→ρ o≠q):(j5 E E' ρ H' Om).obj q=E.obj q:=by
 simp only[j5];rw[dif_neg];rintro⟨o,⟨y,h1⟩,h2⟩;exact hq o y h1 h2
theorem xj{p:Place}(hq:∀o y i,aj o H'=some y→p≠ .cell (ρ o) i):(j5 E E' ρ H' Om).hdr p=E.hdr p:=by
 cases p with
 |slot d=>rfl
 |part d i=>rfl
 |cell q i=>
  simp only[j5];rw[dif_neg];rintro⟨o,⟨y,h1⟩,h2⟩;exact hq o y i h1 (by rw[h2])
end
section
variable {P : Program} {O0 : Base} {F : Nat → Prop} {w0 w w' : World} {s : St} {E E' : Env} {tmps : Array Value}
theorem aq8(h:Rel P O0 w0 F s E tmps w){ρ:Nat→Nat}{H H':List (Nat×HO)}{Lt:Nat→Prop}{args rs:List SV}{vals us:List Value}
  (hH:∀o y,aj o H=some y→aj (ρ o) s.hp=some (y.ren ρ))
  (hLt:∀b,Lt b→E.om b) (ha:Args P (fun b=>E.om b∨F b) s E ρ H Lt w args vals)
  (hinj:∀o o' y y',aj o H'=some y→aj o' H'=some y'→ρ o=ρ o'→o=o')
  (hnew:∀o y,aj o H'=some y→aj o H=none→aj (ρ o) s.hp=none)
  (hhang:∀p v q,s.at p=some v→v.on q=true→∀o y i,aj o H'=some y→q≠ .cell (ρ o) i)
  (hR:Rel P ⟨xz E ρ H args vals,d9 (Gq E ρ H args vals) H⟩ w (fun b=>(E.om b∨F b)∧¬xz E ρ H args vals b∧¬Lt b) ⟨us.length,c8 rs 0,H'⟩ E' us.toArray w')
  (hclo:(∀b,¬Lt b)∨((∀r∈rs,r.clo=true)∧∀o y,aj o H'=some y→y.clo=true))
  {hp:List (Nat×HO)} (hp1:∀o y,aj o H'=some y→aj (ρ o) hp=some (y.ren ρ)) (hp2:∀q,(∀o y,aj o H'=some y→ρ o≠q)→aj q hp=aj q s.hp):
  let E1:=j5 E E' ρ H' (xz E ρ H args vals)
  Rel P O0 w0 F ⟨s.n,s.sl,hp⟩ E1 tmps w'∧∀(i:Nat) (r:SV) (x:Value),rs[i]?=some r→us[i]?=some x→
   (∀e xs,r= .own e xs→ki P (fun b=>E1.om b∨F b) w' e x xs∧(∀b,x.ownBlock=some b→E1.om b∧jm ⟨s.n,s.sl,hp⟩ E1 b)∧
    ∀(j:Nat) (e':TypeId) (ys:List PV) (y:Value) (b:Nat),rs[j]?=some (.own e' ys)→us[j]?=some y→x.ownBlock=some b→y.ownBlock=some b→i=j)∧
   (r.easy=true→(∀q,r.on q=false)→r= .dead∨RS P (fun b=>E1.om b∨F b) E1 w' (r.ren ρ) x)∧∀o,r.pts o=true→∃z,aj (ρ o) hp=some z:=by
 intro E1;have hom:∀b,xz E ρ H args vals b→E.om b:=fun b hb=>yn h ha hH hb
 have hE'om:∀b,E'.om b→xz E ρ H args vals b∨w.heap.size≤b:=hR.om0
 have hHin:∀o y,aj o H=some y→E'.obj o=E.obj (ρ o)∧∃z,aj o H'=some z:=by
  intro o y hy;exact hR.ob o (E.obj (ρ o)) (by simp only[d9,hy];rfl)
 have hgr:=hR.gr;have hAold:∀b,b<w.heap.size→¬(E.om b∨F b)→¬(E1.om b∨F b)∧w'.heap[b]?=w.heap[b]?:=by
  intro b hb hn;refine⟨?_,hgr.block b hb (fun hc=>hn (.inl (hom b hc)))⟩
  rintro((h1|h1)|h1)
  ·exact hn (.inl h1.1)
  ·rcases hE'om b h1 with h2|h2
   ·exact hn (.inl (hom b h2))
   ·omega
  ·exact hn (.inr h1)
 have hAnew:(∀b,¬Lt b)→∀b,¬(E'.om b∨((E.om b∨F b)∧¬xz E ρ H args vals b∧¬Lt b))→¬(E1.om b∨F b):=by
  rintro hl b hn ((h1|h1)|h1)
  ·exact hn (.inr ⟨.inl h1.1,h1.2,hl b⟩)
  ·exact hn (.inl h1)
  ·refine hn (.inr ⟨.inr h1,fun hc=> ?_,hl b⟩)
   exact(h.om_lt b (hom b hc)).2 h1
 have hRS:∀ {v x},RS P (fun b=>E'.om b∨((E.om b∨F b)∧¬xz E ρ H args vals b∧¬Lt b)) E' w' v x→(∀b,¬Lt b)∨v.clo=true→RS P (fun b=>E1.om b∨F b) E' w' v x:=by
  intro v x hv hc;rcases hc with hc|hc
  ·exact hv.grow (fun b _ hn=>⟨hAnew hc b hn,rfl⟩)
  ·exact hv.clo hc
 have hOL:∀ {e x xs},ki P (fun b=>E'.om b∨((E.om b∨F b)∧¬xz E ρ H args vals b∧¬Lt b)) w' e x xs→(∀b,¬Lt b)∨vg xs=true→ki P (fun b=>E1.om b∨F b) w' e x xs:=by
  intro e x xs hv hc;rcases hc with hc|hc
  ·exact hv.kept (fun b _ hn=>⟨hAnew hc b hn,rfl⟩) (fun _ _=>rfl)
  ·exact hv.clo hc
 have hno:∀q y,aj q s.hp=some y→(∀o y,aj o H'=some y→ρ o≠q)→¬xz E ρ H args vals (E.obj q):=by
  rintro q y hq hn (⟨o,z,h1,h2⟩|⟨o,z,i,e,xs,h1,h2,h3⟩|⟨i,e,xs,x,h1,h2,h3⟩)
  ·have:=h.i1 _ _ _ _ (hH o z h1) hq h2;obtain⟨_,z',hz'⟩:=hHin o z h1;exact hn o z' hz' this
  ·have hat:s.at (.cell (ρ o) i)=some (.own e xs):=by
    rw[cv,hH o z h1];simp only[gn,z01,h2,z03];rfl
   exact h.i3 _ _ _ _ _ _ hat hq h3 rfl
  ·exact((ha.own i e xs x h1 h2).2 _ h3).2.1 q y hq rfl
 have hnown:∀p e xs b,s.at p=some (.own e xs)→(∀o y i,aj o H'=some y→p≠ .cell (ρ o) i)→(E.hdr p).ownBlock=some b→¬xz E ρ H args vals b:=by
  rintro p e xs b hp hn hb (⟨o,z,h1,h2⟩|⟨o,z,i,e',ys,h1,h2,h3⟩|⟨i,e',ys,x,h1,h2,h3⟩)
  ·exact h.i3 _ _ _ _ _ _ hp (hH o z h1) hb h2
  ·have hat:s.at (.cell (ρ o) i)=some (.own e' ys):=by
    rw[cv,hH o z h1];simp only[gn,z01,h2,z03];rfl
   obtain⟨_,z',hz'⟩:=hHin o z h1;exact hn o z' i hz' (h.i2 _ _ _ _ _ _ _ hp hat hb h3)
  ·exact((ha.own i e' ys x h1 h2).2 _ h3).2.2 p e xs hp hb
 have hobjold:∀q y,aj q s.hp=some y→E1.obj q=E.obj q:=by
  intro q y hq;by_cases hex:∃o z,aj o H'=some z∧ρ o=q
  ·obtain⟨o,z,h1,rfl⟩:=hex;have h2:E1.obj (ρ o)=E'.obj o:=gp hinj h1;rw[h2];cases hl:aj o H with
   |none=>rw[hnew o z h1 hl]at hq;cases hq
   |some z'=>exact(hHin o z' hl).1
  ·exact il (fun o z h1 h2=>hex ⟨o,z,h1,h2⟩)
 have hhp:∀q y,aj q hp=some y→(∃o y0,aj o H'=some y0∧q=ρ o∧y=y0.ren ρ)∨((∀o y0,aj o H'=some y0→ρ o≠q)∧aj q s.hp=some y):=by
  intro q y hq;by_cases hex:∃o z,aj o H'=some z∧ρ o=q
  ·obtain⟨o,z,h1,rfl⟩:=hex;rw[hp1 o z h1]at hq;cases hq
   exact .inl ⟨o,z,h1,rfl,rfl⟩
  ·have hn:∀o y0,aj o H'=some y0→ρ o≠q:=fun o z h1 h2=>hex ⟨o,z,h1,h2⟩
   rw[hp2 q hn]at hq;exact .inr ⟨hn,hq⟩
 have hhp':∀q y,aj q s.hp=some y→∃y',aj q hp=some y':=by
  intro q y hq;by_cases hex:∃o z,aj o H'=some z∧ρ o=q
  ·obtain⟨o,z,h1,rfl⟩:=hex;exact⟨_,hp1 o z h1⟩
  ·exact⟨y,by rw[hp2 q (fun o z h1 h2=>hex ⟨o,z,h1,h2⟩)];exact hq⟩
 have hatc:∀ {q i v},(St.mk s.n s.sl hp).at (.cell q i)=some v→(∃o y v0,aj o H'=some y∧q=ρ o∧y.list[i]?=some v0∧v=v0.ren ρ∧(St.mk us.length (c8 rs 0) H').at (.cell o i)=some v0)∨
   ((∀o y0,aj o H'=some y0→ρ o≠q)∧s.at (.cell q i)=some v):=by
  intro q i v hv;obtain⟨y,hy,hl⟩:=Cr hv;rcases hhp q y hy with⟨o,y0,h1,rfl,rfl⟩|⟨h1,h2⟩
  ·rw[gn,z01,z05]at hl;obtain⟨v0,h3,rfl⟩:=hl;exact .inl ⟨o,y0,v0,h1,rfl,h3,rfl,by rw[cv];simp only[h1];exact h3⟩
  ·exact .inr ⟨h1,by rw[cv,h2];exact hl⟩
 have hnoncell:∀ {p},(∀q i,p≠ .cell q i)→(St.mk s.n s.sl hp).at p=s.at p:=by
  intro p hp';cases p with
  |slot d=>rfl
  |part d i=>rfl
  |cell q i=>exact absurd rfl (hp' q i)
 have hcnon:∀ {o i v0},(St.mk us.length (c8 rs 0) H').at (.cell o i)=some v0→∀q,v0.on q=false:=by
  intro o i v0 hv q;cases hq:v0.on q with
  |false=>rfl
  |true=>obtain⟨⟨d,hd⟩,_⟩:=hR.na _ _ q hv hq;cases hd
 have hcloH:∀ {o:Nat} {y:HO} {v0:SV} {i:Nat},aj o H'=some y→y.list[i]?=some v0→(∀b,¬Lt b)∨v0.clo=true:=by
  intro o y v0 i hy hv;rcases hclo with hc|hc
  ·exact .inl hc
  ·right
   have:=hc.2 o y hy;cases y with
   |cells e cs=>exact z07.1 this _ (z00 hv)
   |mp es=>simp[HO.list]at hv
 have hown:∀p e xs b,(St.mk s.n s.sl hp).at p=some (.own e xs)→(E1.hdr p).ownBlock=some b→(∃o y i,aj o H'=some y∧p= .cell (ρ o) i∧(St.mk us.length (c8 rs 0) H').at (.cell o i)=some (.own e xs)∧(E'.hdr (.cell o i)).ownBlock=some b∧E'.om b)∨
   ((∀o y i,aj o H'=some y→p≠ .cell (ρ o) i)∧s.at p=some (.own e xs)∧(E.hdr p).ownBlock=some b∧¬xz E ρ H args vals b∧E.om b):=by
  intro p e xs b hp' hb;have old:(∀o y i,aj o H'=some y→p≠ .cell (ρ o) i)→s.at p=some (.own e xs)→(∀o y i,aj o H'=some y→p≠ .cell (ρ o) i)∧s.at p=some (.own e xs)∧(E.hdr p).ownBlock=some b∧¬xz E ρ H args vals b∧E.om b:=by
   intro h1 h2;have h3:E1.hdr p=E.hdr p:=xj h1;rw[h3]at hb;obtain⟨_,_,_,_,h4⟩:=h.place p _ h2;exact⟨h1,h2,hb,hnown p e xs b h2 h1 hb,h4 b hb⟩
  cases p with
  |slot d=>exact .inr (old (by simp) hp')
  |part d i=>exact .inr (old (by simp) hp')
  |cell q i=>
   rcases hatc hp' with⟨o,y,v0,h1,rfl,h3,h4,h5⟩|⟨h1,h2⟩
   ·have h6:v0= .own e xs:=Zi.1 h4.symm;subst h6;have h7:E1.hdr (.cell (ρ o) i)=E'.hdr (.cell o i):=Gg hinj h1;rw[h7]at hb;obtain⟨_,_,_,_,h8⟩:=hR.place _ _ h5;exact .inl ⟨o,y,i,h1,rfl,h5,hb,h8 b hb⟩
   ·exact .inr (old (fun o y j ho he=>h1 o y ho (by simp at he;exact he.1.symm)) h2)
 have hrel:Rel P O0 w0 F ⟨s.n,s.sl,hp⟩ E1 tmps w':=by
  refine { place:= ?_,obj:= ?_,size:=h.size,i1:= ?_,i2:= ?_,i3:= ?_,om_lt:= ?_,om0:= ?_,na:= ?_,np:= ?_,gr:= ?_,flt:=h.flt,ob:= ?_ }
  ·intro p v hp';have old:(∀o y i,aj o H'=some y→p≠ .cell (ρ o) i)→s.at p=some v→∃x,CV E tmps w p x∧ip P (fun b=>E1.om b∨F b) E1 w' p v x:=by
    intro h1 h2;obtain⟨x,hx,hv⟩:=h.place p v h2;have h3:E1.hdr p=E.hdr p:=xj h1;refine⟨x,hx, ?_⟩;have hmv:RS P (fun b=>E.om b∨F b) E w v x→RS P (fun b=>E1.om b∨F b) E1 w' v x:=fun h4=>
     h4.move hAold (fun o ho=>by obtain⟨y,hy⟩:=h.np p v o h2 ho;exact hobjold o y hy) (fun q hq=>xj (hhang p v q h2 hq))
    cases v<;>simp only[ip]at hv⊢
    case own e xs=>
     obtain⟨k1,k2,k3⟩:=hv;rw[h3];refine⟨k1,k2.kept hAold (fun b hb=>hgr.block b (h.om_lt b (k3 b hb)).1 (hnown p e xs b h2 h1 hb)),fun b hb=> .inl ⟨k3 b hb,hnown p e xs b h2 h1 hb⟩⟩
    case tup vs=>exact hv
    all_goals exact hmv hv
   cases p with
   |slot d=>exact old (by simp) hp'
   |part d i=>exact old (by simp) hp'
   |cell q i=>
    rcases hatc hp' with⟨o,y,v0,h1,rfl,h3,rfl,h5⟩|⟨h1,h2⟩
    ·obtain⟨x,hx,hv⟩:=hR.place _ _ h5;have h6:E1.obj (ρ o)=E'.obj o:=gp hinj h1;have h7:E1.hdr (.cell (ρ o) i)=E'.hdr (.cell o i):=Gg hinj h1;refine⟨x,by simp only[CV,h6];exact hx, ?_⟩
     cases hve:v0.easy with
     |true=>
      have hr:v0= .dead∨RS P (fun b=>E'.om b∨((E.om b∨F b)∧¬xz E ρ H args vals b∧¬Lt b)) E' w' v0 x:=by
       cases v0<;>simp[SV.easy]at hve<;>first|exact .inl rfl|exact .inr hv
      have he2:(v0.ren ρ).easy=true:=by cases v0<;>simp[SV.easy]at hve<;>rfl
      refine pu he2 (hr.imp (fun h8=>by subst h8;rfl) fun h8=>(hRS h8 (hcloH h1 h3)).ren (fun _ hn=>hn) (fun o' ho'=> ?_) (hcnon h5))
      obtain⟨z,hz⟩:=hR.np _ _ o' h5 ho';exact gp hinj hz
     |false=>
      cases v0<;>simp[SV.easy]at hve
      ·rename_i e xs;obtain⟨k1,k2,k3⟩:=hv;simp only[SV.ren,ip];rw[h7];exact⟨k1,hOL k2 (hcloH h1 h3),fun b hb=> .inr (k3 b hb)⟩
      ·exact hv
    ·obtain⟨x,hx,hv⟩:=old (fun o y j ho he=>h1 o y ho (by simp at he;exact he.1.symm)) h2
     refine⟨x, ?_,hv⟩;obtain⟨y,hy,_⟩:∃y,aj q s.hp=some y∧True:=by
      rw[cv]at h2;split at h2
      ·rename_i y hy;exact⟨y,hy,trivial⟩
      ·cases h2
     have h6:E1.obj q=E.obj q:=il h1;simp only[CV,h6]at hx⊢;have hb:=hgr.block (E.obj q) (h.om_lt _ (h.obj q y hy).1).1 (hno q y hy h1);exact(World.cell?_of_block (w:=w) (a:=⟨E.obj q,i,none⟩) hb).trans hx
  ·intro q y hy;rcases hhp q y hy with⟨o,y0,h1,rfl,rfl⟩|⟨h1,h2⟩
   ·have h6:E1.obj (ρ o)=E'.obj o:=gp hinj h1;obtain⟨k1,k2⟩:=hR.obj o y0 h1;refine⟨by rw[h6];exact .inr k1, ?_⟩
    cases y0 with
    |cells e cs=>
     obtain⟨vs,k3,k4,k5⟩:=k2;refine⟨vs,by rw[h6];exact k3,by simpa using k4,fun c hc=> ?_⟩
     obtain⟨c0,hc0,rfl⟩:=List.mem_map.1 hc;rw[Zj];exact k5 c0 hc0
    |mp es=>
     obtain⟨ms,c,k3,k4,k5⟩:=k2;refine⟨ms,c,by rw[h6];exact k3,k4,fun i kv m hk hm=> ?_⟩
     have k6:=k5 i kv m hk hm;rcases hclo with hc|hc
     ·exact⟨k6.1.sub (hAnew hc),k6.2.sub (hAnew hc)⟩
     ·have h9:=hc.2 o _ h1;simp only[HO.clo]at h9;have h10:=z07.1 h9 kv (z00 hk);simp only[Bool.and_eq_true]at h10;exact⟨k6.1.clo h10.1,k6.2.clo h10.2⟩
   ·have h6:E1.obj q=E.obj q:=il h1;obtain⟨k1,k2⟩:=h.obj q y h2;have hn:=hno q y h2 h1;refine⟨by rw[h6];exact .inl ⟨k1,hn⟩, ?_⟩
    have hb:=hgr.block (E.obj q) (h.om_lt _ k1).1 hn;cases y with
    |cells e cs=>
     obtain⟨vs,k3,k4⟩:=k2;exact⟨vs,by rw[h6];exact hb.trans k3,k4⟩
    |mp es=>
     obtain⟨ms,c,k3,k4,k5⟩:=k2;exact⟨ms,c,by rw[h6];exact hb.trans k3,k4,fun i kv m hk hm=>⟨(k5 i kv m hk hm).1.mono hAold,(k5 i kv m hk hm).2.mono hAold⟩⟩
  ·intro q q' y y' hy hy' he;rcases hhp q y hy with⟨o,y0,h1,rfl,rfl⟩|⟨h1,h2⟩
   ·have h6:E1.obj (ρ o)=E'.obj o:=gp hinj h1;rcases hhp q' y' hy' with⟨o',y0',h1',rfl,rfl⟩|⟨h1',h2'⟩
    ·have h6':E1.obj (ρ o')=E'.obj o':=gp hinj h1';rw[h6,h6']at he;rw[hR.i1 o o' _ _ h1 h1' he]
    ·have h6':E1.obj q'=E.obj q':=il h1';rw[h6,h6']at he;have k1:=(hR.obj o y0 h1).1;have k2:=(h.om_lt _ (h.obj q' y' h2').1).1;rcases hE'om _ k1 with k3|k3
     ·rw[he]at k3;exact absurd k3 (hno q' y' h2' h1')
     ·omega
   ·have h6:E1.obj q=E.obj q:=il h1;rcases hhp q' y' hy' with⟨o',y0',h1',rfl,rfl⟩|⟨h1',h2'⟩
    ·have h6':E1.obj (ρ o')=E'.obj o':=gp hinj h1';rw[h6,h6']at he;have k1:=(hR.obj o' y0' h1').1;have k2:=(h.om_lt _ (h.obj q y h2).1).1;rcases hE'om _ k1 with k3|k3
     ·rw[←he]at k3;exact absurd k3 (hno q y h2 h1)
     ·omega
    ·have h6':E1.obj q'=E.obj q':=il h1';rw[h6,h6']at he;exact h.i1 q q' y y' h2 h2' he
  ·intro p q e xs e' ys b hp' hq' hpb hqb;rcases hown p e xs b hp' hpb with⟨o,y,i,h1,rfl,h3,h4,h5⟩|⟨h1,h2,h3,h4,h5⟩
   ·rcases hown q e' ys b hq' hqb with⟨o',y',i',k1,rfl,k3,k4,k5⟩|⟨k1,k2,k3,k4,k5⟩
    ·have:=hR.i2 _ _ _ _ _ _ b h3 k3 h4 k4;simp only[Place.cell.injEq]at this;rw[this.1,this.2]
    ·rcases hE'om b h5 with k6|k6
     ·exact absurd k6 k4
     ·have:=(h.om_lt b k5).1;omega
   ·rcases hown q e' ys b hq' hqb with⟨o',y',i',k1,rfl,k3,k4,k5⟩|⟨k1,k2,k3,k4,k5⟩
    ·rcases hE'om b k5 with k6|k6
     ·exact absurd k6 h4
     ·have:=(h.om_lt b h5).1;omega
    ·exact h.i2 _ _ _ _ _ _ b h2 k2 h3 k3
  ·intro p e xs q y b hp' hy hpb;rcases hown p e xs b hp' hpb with⟨o,y1,i,h1,rfl,h3,h4,h5⟩|⟨h1,h2,h3,h4,h5⟩
   ·rcases hhp q y hy with⟨o',y0',h1',rfl,rfl⟩|⟨h1',h2'⟩
    ·rw[show E1.obj (ρ o')=E'.obj o' from gp hinj h1']
     exact hR.i3 _ _ _ _ _ b h3 h1' h4
    ·rw[show E1.obj q=E.obj q from il h1']
     rintro rfl;rcases hE'om _ h5 with k6|k6
     ·exact hno q y h2' h1' k6
     ·have:=(h.om_lt _ (h.obj q y h2').1).1;omega
   ·rcases hhp q y hy with⟨o',y0',h1',rfl,rfl⟩|⟨h1',h2'⟩
    ·rw[show E1.obj (ρ o')=E'.obj o' from gp hinj h1']
     rintro rfl;have k1:=(hR.obj o' y0' h1').1;rcases hE'om _ k1 with k6|k6
     ·exact h4 k6
     ·have:=(h.om_lt _ h5).1;omega
    ·rw[show E1.obj q=E.obj q from il h1']
     exact h.i3 _ _ _ _ _ b h2 h2' h3
  ·rintro b (⟨hb,_⟩|hb)
   ·have:=h.om_lt b hb;exact⟨Nat.lt_of_lt_of_le this.1 hgr.size,this.2⟩
   ·refine⟨(hR.om_lt b hb).1,fun hf=> ?_⟩
    rcases hE'om b hb with k|k
    ·exact(h.om_lt b (hom b k)).2 hf
    ·have h1:=h.flt b hf;have h2:=h.gr.size;omega
  ·rintro b (⟨hb,_⟩|hb)
   ·exact h.om0 b hb
   ·rcases hE'om b hb with k|k
    ·exact h.om0 b (hom b k)
    ·have h2:=h.gr.size;exact .inr (by omega)
  ·intro p v q hp' hq;have old:s.at p=some v→(∃d,p= .slot d)∧(∃e xs,(St.mk s.n s.sl hp).at q=some (.own e xs))∧∀d i,q≠ .part d i:=by
    intro h1;obtain⟨k1,⟨e,xs,k2⟩,k3⟩:=h.na p v q h1 hq;refine⟨k1,⟨e,xs, ?_⟩,k3⟩;cases q with
    |slot d=>exact k2
    |part d i=>exact k2
    |cell q' i=>
     have hn:∀o y,aj o H'=some y→ρ o≠q':=fun o y ho he=>hhang p v _ h1 hq o y i ho (by rw[he])
     rw[cv]at k2⊢;rw[show aj q' (St.mk s.n s.sl hp).hp=aj q' s.hp from hp2 q' hn]
     exact k2
   cases p with
   |slot d=>exact old hp'
   |part d i=>exact old hp'
   |cell q' i=>
    rcases hatc hp' with⟨o,y,v0,h1,rfl,h3,rfl,h5⟩|⟨h1,h2⟩
    ·rw[H9,hcnon h5 q]at hq;cases hq
    ·exact old h2
  ·intro p v q hp' hq;have old:s.at p=some v→∃y,aj q hp=some y:=by
    intro h1;obtain⟨y,hy⟩:=h.np p v q h1 hq;exact hhp' q y hy
   cases p with
   |slot d=>exact old hp'
   |part d i=>exact old hp'
   |cell q' i=>
    rcases hatc hp' with⟨o,y,v0,h1,rfl,h3,rfl,h5⟩|⟨h1,h2⟩
    ·obtain⟨o',ho',rfl⟩:=Ow hq;obtain⟨z,hz⟩:=hR.np _ _ o' h5 ho';exact⟨_,hp1 o' z hz⟩
    ·exact old h2
  ·exact h.gr.trans hgr (fun b hb=>h.om0 b (hom b hb))
  ·intro o b hb;obtain⟨h1,y,hy⟩:=h.ob o b hb;exact⟨by rw[hobjold o y hy];exact h1,hhp' o y hy⟩
 refine⟨hrel,fun i r x hr hx=> ?_⟩
 have hi:i<us.length:=(z04.1 hx).1;have hsl:(St.mk us.length (c8 rs 0) H').at (.slot i)=some r:=by simp only[St.at];rw[ij];exact hr
 obtain⟨x',hx',hv⟩:=hR.place _ _ hsl;have hxx:x'=x:=by
  simp only[CV]at hx';rw[z06,hx]at hx';exact(Option.some.inj hx').symm
 subst hxx;have hcr:(∀b,¬Lt b)∨r.clo=true:=hclo.imp id fun hc=>hc.1 r (z00 hr)
 refine⟨?_, ?_, ?_⟩
 ·rintro e xs rfl;obtain⟨k1,k2,k3⟩:=hv;subst k1;refine⟨hOL k2 hcr,fun b hb=>⟨.inr (k3 b hb),fun q y hy=> ?_,fun p e' ys hp' hpb=> ?_⟩,fun j e' ys y b hj hy hb hyb=> ?_⟩
  ·rcases hhp q y hy with⟨o',y0',h1',rfl,rfl⟩|⟨h1',h2'⟩
   ·rw[show E1.obj (ρ o')=E'.obj o' from gp hinj h1']
    exact hR.i3 _ _ _ _ _ b hsl h1' hb
   ·rw[show E1.obj q=E.obj q from il h1']
    rintro rfl;rcases hE'om _ (k3 _ hb)with k6|k6
    ·exact hno q y h2' h1' k6
    ·have:=(h.om_lt _ (h.obj q y h2').1).1;omega
  ·rcases hown p e' ys b hp' hpb with⟨o,y1,i',h1,rfl,h3,h4,h5⟩|⟨h1,h2,h3,h4,h5⟩
   ·have:=hR.i2 _ _ _ _ _ _ b hsl h3 hb h4;cases this
   ·rcases hE'om b (k3 b hb)with k6|k6
    ·exact h4 k6
    ·have:=(h.om_lt b h5).1;omega
  ·have hslj:(St.mk us.length (c8 rs 0) H').at (.slot j)=some (.own e' ys):=by simp only[St.at];rw[ij];exact hj
   obtain⟨y',hy',hvj⟩:=hR.place _ _ hslj;have:y'=y:=by
    simp only[CV]at hy';rw[z06,hy]at hy';exact(Option.some.inj hy').symm
   subst this;rw[hvj.1]at hyb;have:=hR.i2 _ _ _ _ _ _ b hsl hslj hb hyb;simpa using this
 ·intro he hon;have hr':r= .dead∨RS P (fun b=>E'.om b∨((E.om b∨F b)∧¬xz E ρ H args vals b∧¬Lt b)) E' w' r x':=by
   cases r<;>simp[SV.easy]at he<;>first|exact .inl rfl|exact .inr hv
  refine hr'.imp id fun h8=>(hRS h8 hcr).ren (fun _ hn=>hn) (fun o' ho'=> ?_) hon
  obtain⟨z,hz⟩:=hR.np _ _ o' hsl ho';exact gp hinj hz
 ·intro o ho;obtain⟨z,hz⟩:=hR.np _ _ o hsl ho;exact⟨_,hp1 o z hz⟩
end
end Go.Ck
namespace Go.Ck
open Go.RowKit
def SV.onO(o:Nat):SV→Bool
 | .al (.cell q _)=>q==o
 | .vw (.cell q _) _ _ _=>q==o
 | .ea (.cell q _) _ _ _=>q==o
 |_=>false
def Ig(o:Nat):List (Nat×SV)→List (Nat×SV)
 |[]=> []
 |(d,v)::r=>(d,if v.onO o then .dead else v)::Ig o r
def killO(o:Nat)(s:St):St:=⟨s.n,Ig o s.sl,s.hp⟩
def mu:List Nat→St→St
 |[],s=>s
 |o::r,s=>mu r (killO o s)
theorem pn(o:Nat)(d:Nat):∀l:List (Nat×SV),aj d (Ig o l)=(aj d l).map fun v=>if v.onO o then .dead else v
 |[]=>rfl
 |(k,v)::r=>by
  simp only[Ig,aj];split
  ·rfl
  ·exact pn o d r
theorem sn(o:Nat)(s:St)(p:Place)(v:SV)(h:(killO o s).at p=some v):(v= .dead∧∃u,s.at p=some u)∨(s.at p=some v∧∀d,p= .slot d→v.onO o=false):=by
 cases p with
 |slot d=>
  simp only[St.at,killO,pn,z05]at h;obtain⟨u,hu,he⟩:=h;split at he
  ·exact .inl ⟨he.symm,u,hu⟩
  ·rename_i ho;subst he;exact .inr ⟨hu,fun _ _=>by simpa using ho⟩
 |part d i=>
  refine .inr ⟨?_,by simp⟩
  simp only[St.at,killO,pn]at h⊢;cases hl:aj d s.sl with
  |none=>simp[hl]at h
  |some u=>
   simp only[hl,z03]at h;by_cases ho:u.onO o=true
   ·simp[ho]at h
   ·simp only[ho]at h;exact h
 |cell o' i=>exact .inr ⟨h,by simp⟩
theorem Mw(o:Nat)(s:St){p:Place}{e:TypeId}{xs:List PV}(h:s.at p=some (.own e xs)):(killO o s).at p=some (.own e xs):=by
 cases p with
 |slot d=>simp only[St.at,killO,pn]at h⊢;simp[h,SV.onO]
 |part d i=>
  simp only[St.at,killO,pn]at h⊢;cases hl:aj d s.sl with
  |none=>simp[hl]at h
  |some u=>cases u<;>simp[hl]at h;simp[SV.onO,h]
 |cell o' i=>exact h
theorem Xa(o:Nat)(s:St){p:Place}{e:TypeId}{xs:List PV}(h:(killO o s).at p=some (.own e xs)):s.at p=some (.own e xs):=by
 rcases sn o s p _ h with⟨h1,_⟩|⟨h1,_⟩
 ·cases h1
 ·exact h1
section
variable {P : Program} {O0 : Base} {F : Nat → Prop} {w0 w : World} {s : St} {E : Env} {tmps : Array Value}
theorem Rel.killO(h:Rel P O0 w0 F s E tmps w)(o:Nat):Rel P O0 w0 F (Ck.killO o s) E tmps w:=by
 refine h.forget rfl (fun p v hp=> ?_) (fun o x hx=>hx) (fun p v r hp hr=> ?_) (fun p v o' hp ho=> ?_) (fun p ⟨v,hp⟩=> ?_) (fun o x hx=>⟨x,hx⟩)
 ·rcases sn o s p v hp with⟨rfl,_⟩|⟨h1,_⟩
  ·exact .inl rfl
  ·exact .inr (.inl h1)
 ·rcases sn o s p v hp with⟨rfl,_⟩|⟨h1,h2⟩
  ·simp[SV.on]at hr
  ·obtain⟨_,⟨e,xs,h3⟩,_⟩:=h.na p v r h1 hr;exact⟨e,xs,Mw o s h3⟩
 ·rcases sn o s p v hp with⟨rfl,_⟩|⟨h1,_⟩
  ·simp[SV.pts]at ho
  ·exact h.np p v o' h1 ho
 ·rcases sn o s p v hp with⟨_,u,hu⟩|⟨h1,_⟩
  ·exact⟨u,hu⟩
  ·exact⟨v,h1⟩
theorem rc:∀(os:List Nat) {s:St},Rel P O0 w0 F s E tmps w→Rel P O0 w0 F (mu os s) E tmps w∧(mu os s).hp=s.hp∧(mu os s).n=s.n∧(∀p e xs,(mu os s).at p=some (.own e xs)→s.at p=some (.own e xs))∧(∀p e xs,s.at p=some (.own e xs)→(mu os s).at p=some (.own e xs))∧
  ∀p v q,(mu os s).at p=some v→v.on q=true→∀o∈os,∀i,q≠ .cell o i
 |[],s,h=>⟨h,rfl,rfl,fun _ _ _ h=>h,fun _ _ _ h=>h,by simp⟩
 |o::r,s,h=>by
  obtain⟨h1,h2,h3,h4,h4',h5⟩:=rc r (h.killO o);refine⟨h1,h2,h3,fun p e xs hp=>Xa o s (h4 p e xs hp),fun p e xs hp=>h4' p e xs (Mw o s hp),fun p v q hp hq o' ho' i=> ?_⟩
  rcases List.mem_cons.1 ho' with rfl|ho'
  ·have key:∀(os:List Nat) (s:St) p v,(mu os s).at p=some v→v≠ .dead→s.at p=some v:=by
    intro os
    induction os with
    |nil=>intro s p v h _;exact h
    |cons a l ih=>
     intro s p v h hn;rcases sn a s p v (ih (Ck.killO a s) p v h hn)with⟨h6,_⟩|⟨h6,_⟩
     ·exact absurd h6 hn
     ·exact h6
   have hv:(Ck.killO o' s).at p=some v:=key r _ p v hp (by rintro rfl;simp[SV.on]at hq)
   rcases sn o' s p v hv with⟨rfl,_⟩|⟨h6,h7⟩
   ·simp[SV.on]at hq
   ·obtain⟨⟨d,rfl⟩,_⟩:=h.na p v q h6 hq;have h8:=h7 d rfl;rintro rfl;cases v<;>simp[SV.on]at hq<;>subst hq<;>simp[SV.onO]at h8
  ·exact h5 p v q hp hq o' ho' i
def Oh(P:Program)(A:Nat→Prop)(s:St)(E:Env)(w:World)(v:SV)(x:Value):Prop:=match v with
 | .own e xs=>ki P A w e x xs∧∀b,x.ownBlock=some b→E.om b∧jm s E b
 | .tup _=>False
 |v=>(∀q,v.on q=false)∧(v= .dead∨RS P A E w v x)∧∀o,v.pts o=true→∃z,aj o s.hp=some z
theorem Rel.putTup(h:Rel P O0 w0 F s E tmps w){d:Nat}{vs:List SV}{us:List Value}(hd:d<s.n)(hf:Hj (.slot d) s)(hl:us.length=vs.length)(hp:∀(i:Nat) (v:SV) (x:Value),vs[i]?=some v→us[i]?=some x→Oh P (fun b=>E.om b∨F b) s E w v x)
  (hdist:∀(i j:Nat) (e:TypeId) (xs:List PV) (e':TypeId) (ys:List PV) (x y:Value) (b:Nat),vs[i]?=some (.own e xs)→vs[j]?=some (.own e' ys)→us[i]?=some x→us[j]?=some y→x.ownBlock=some b→y.ownBlock=some b→i=j):
  ∃E',Rel P O0 w0 F (setSlot d (.tup vs) s) E' (tmps.setIfInBounds d (.tuple us.toArray)) w:=by
 have hsz:d<tmps.size:=by rw[←h.size];exact hd
 let G:Place→Value:=fun q=>match q with| .part d' i=>if d'=d then us.getD i undef else E.hdr q|q=>E.hdr q
 have hGp:∀i x,us[i]?=some x→G (.part d i)=x:=fun i x hx=>by simp[G,List.getD_eq_getElem?_getD,hx]
 have hGq:∀q,(∀i,q≠ .part d i)→G q=E.hdr q:=by
  intro q hq;cases q with
  |slot d'=>rfl
  |part d' i=>simp only[G];rw[if_neg (by rintro rfl;exact hq i rfl)]
  |cell o i=>rfl
 have hat:∀p u,(Ck.setSlot d (.tup vs) s).at p=some u→(p= .slot d∧u= .tup vs)∨(∃i,p= .part d i∧vs[i]?=some u)∨(p≠ .slot d∧(∀i,p≠ .part d i)∧s.at p=some u):=by
  intro p u hp;rw[cj]at hp;cases p with
  |slot d'=>
   simp only at hp;split at hp
   ·rename_i e;subst e;simp at hp;exact .inl ⟨rfl,hp.symm⟩
   ·rename_i e;exact .inr (.inr ⟨by simpa using fun h=>e h.symm,by simp,hp⟩)
  |part d' i=>
   simp only at hp;split at hp
   ·rename_i e;subst e;exact .inr (.inl ⟨i,rfl,hp⟩)
   ·rename_i e;exact .inr (.inr ⟨by simp,fun i=>by simpa using fun h=>absurd h.symm e,hp⟩)
  |cell o i=>exact .inr (.inr ⟨by simp,by simp,hp⟩)
 have hus:∀ {i:Nat} {u:SV},vs[i]?=some u→∃x,us[i]?=some x:=by
  intro i u hu;have:i<us.length:=by rw[hl];exact(z04.1 hu).1
  exact⟨us[i],List.getElem?_eq_getElem this⟩
 have hkeep:∀q e xs,q≠ .slot d→(∀i j,q≠ .part i j)→s.at q=some (.own e xs)→(Ck.setSlot d (.tup vs) s).at q=some (.own e xs):=by
  intro q e xs h1 h2 h3;rw[cj];cases q with
  |slot d'=>simp only;rw[if_neg (by rintro rfl;exact h1 rfl)];exact h3
  |part d' i=>exact absurd rfl (h2 d' i)
  |cell o i=>exact h3
 have hown:∀p e xs b,(Ck.setSlot d (.tup vs) s).at p=some (.own e xs)→(G p).ownBlock=some b→(∃i x,p= .part d i∧vs[i]?=some (.own e xs)∧us[i]?=some x∧x.ownBlock=some b∧E.om b∧jm s E b)∨(s.at p=some (.own e xs)∧(E.hdr p).ownBlock=some b):=by
  intro p e xs b hp' hb;rcases hat p _ hp' with⟨_,h1⟩|⟨i,rfl,h1⟩|⟨h1,h2,h3⟩
  ·cases h1
  ·obtain⟨x,hx⟩:=hus h1;rw[hGp i x hx]at hb;obtain⟨k1,k2⟩:=hp i _ x h1 hx;exact .inl ⟨i,x,rfl,h1,hx,hb,k2 b hb⟩
  ·rw[hGq p h2]at hb;exact .inr ⟨h3,hb⟩
 refine⟨{ E with hdr:=G },{ place:= ?_,obj:= ?_,size:=by simp[Ck.setSlot,h.size],i1:=h.i1,i2:= ?_,i3:= ?_,om_lt:=h.om_lt,om0:=h.om0,na:= ?_,np:= ?_,gr:=h.gr,flt:=h.flt,ob:=h.ob }⟩
 ·intro p v hp';rcases hat p v hp' with⟨rfl,rfl⟩|⟨i,rfl,h1⟩|⟨h1,h2,h3⟩
  ·exact⟨.tuple us.toArray,by simp[CV,hsz],us.toArray,rfl,by simpa using hl⟩
  ·obtain⟨x,hx⟩:=hus h1;refine⟨x,⟨us.toArray,by simp[hsz],by simpa using hx⟩, ?_⟩
   have hok:=hp i v x h1 hx;cases v<;>simp only[Oh]at hok
   case own e xs=>
    simp only[ip];rw[hGp i x hx];exact⟨rfl,hok.1,fun b hb=>(hok.2 b hb).1⟩
   case dead=>exact trivial
   all_goals
    obtain⟨k1,k2,k3⟩:=hok;rcases k2 with k2|k2
    ·cases k2
    ·exact RS.congr (E:=E) rfl k2 (fun q hq=>by rw[k1 q]at hq;cases hq)
  ·obtain⟨x',hx',hv⟩:=h.place p v h3;refine⟨x', ?_,ip.congr (E:=E) (E':= { E with hdr:=G }) rfl rfl hv (fun q hq=>hGq q (fun i=>(h.na _ v q h3 hq).2.2 d i)) (hGq p h2)⟩
   cases p with
   |slot d'=>simp only[CV]at hx'⊢;rw[z02 (by rintro rfl;exact h1 rfl)];exact hx'
   |part d' i=>
    simp only[CV]at hx'⊢;obtain⟨us',h6,h7⟩:=hx';exact⟨us',by rw[z02 (by rintro rfl;exact h2 i rfl)];exact h6,h7⟩
   |cell o i=>exact hx'
 ·intro o y hy;obtain⟨h1,h2⟩:=h.obj o y hy;refine⟨h1, ?_⟩;cases y<;>exact h2
 ·intro p q e xs e' ys b hp' hq' hpb hqb;rcases hown p e xs b hp' hpb with⟨i,x,rfl,a1,a2,a3,a4,a5⟩|⟨a1,a2⟩
  ·rcases hown q e' ys b hq' hqb with⟨j,y,rfl,b1,b2,b3,b4,b5⟩|⟨b1,b2⟩
   ·rw[hdist i j e xs e' ys x y b a1 b1 a2 b2 a3 b3]
   ·exact absurd b2 (a5.2 q e' ys b1)
  ·rcases hown q e' ys b hq' hqb with⟨j,y,rfl,b1,b2,b3,b4,b5⟩|⟨b1,b2⟩
   ·exact absurd a2 (b5.2 p e xs a1)
   ·exact h.i2 p q e xs e' ys b a1 b1 a2 b2
 ·intro p e xs o y b hp' hy hpb;rcases hown p e xs b hp' hpb with⟨i,x,rfl,a1,a2,a3,a4,a5⟩|⟨a1,a2⟩
  ·exact a5.1 o y hy
  ·exact h.i3 p e xs o y b a1 hy a2
 ·intro p v q hp' hq;rcases hat p v hp' with⟨rfl,rfl⟩|⟨i,rfl,h1⟩|⟨h1,h2,h3⟩
  ·simp[SV.on]at hq
  ·obtain⟨x,hx⟩:=hus h1;have hok:=hp i v x h1 hx;cases v<;>simp only[Oh]at hok
   case own=>simp[SV.on]at hq
   all_goals (rw[hok.1 q]at hq;cases hq)
  ·obtain⟨h6,⟨e,xs,h7⟩,h8⟩:=h.na p v q h3 hq;refine⟨h6,⟨e,xs,hkeep q e xs ?_ h8 h7⟩,h8⟩;rintro rfl;rw[hf p v h3]at hq;cases hq
 ·intro p v o hp' ho;rcases hat p v hp' with⟨rfl,rfl⟩|⟨i,rfl,h1⟩|⟨h1,h2,h3⟩
  ·simp[SV.pts]at ho
  ·obtain⟨x,hx⟩:=hus h1;have hok:=hp i v x h1 hx;cases v<;>simp only[Oh]at hok
   case own=>simp[SV.pts]at ho
   all_goals exact hok.2.2 o ho
  ·exact h.np p v o h3 ho
end
end Go.Ck
namespace Go.Ck
section
variable {F : Fence} {n : Nat} {P : Program} {Q : Exit → Act → World → Prop} {a : Act} {w : World} {b : Frame} {cs : List Frame} {k : List Item}
end
end Go.Ck
namespace Go.Ck
open Go.RowKit
structure Bs where
 O:Base
 w:World
 F:Nat→Prop
abbrev Cx:=Bs→List Deferred→Prop
def eg(R:Option Nat):Fence:= { Fence.wide with round:=R }
def lim:Option Nat→Nat
 |none=>1000
 |some _=>0
def AS(P:Program)(R:Option Nat)(C:Cx)(B:Bs)(s:St)(a:Act)(w:World):Prop:=(C B a.defers∧(∀o,o<lim R→B.O.ob o=none)∧Gj P (fun b=>B.O.blk b∨B.F b) B.w)∧∃E,Rel P B.O B.w B.F s E a.tmps w
theorem v8{P:Program}{B:Bs}{s:St}{E:Env}{tmps:Array Value}{w:World}(hG:Gj P (fun b=>B.O.blk b∨B.F b) B.w)(h:Rel P B.O B.w B.F s E tmps w):Gj P (fun b=>E.om b∨B.F b) w:=
 hG.mono (fun b hb hn=>⟨fun hc=>hn (hc.elim (fun h1=>(h.om0 b h1).elim .inl (fun h2=>absurd hb (by omega))) .inr),h.gr.block b hb (fun hc=>hn (.inl hc))⟩) h.gr.size
theorem AS.drew{P:Program}{R:Option Nat}{C:Cx}{B:Bs}{s:St}{a:Act}{w:World}(h:AS P R C B s a w):AS P R C B s a { w with drawn:=w.drawn+1 } :=by
 obtain⟨hd,E,h⟩:=h;exact⟨hd,_,h.world (w':= { w with drawn:=w.drawn+1 }) (M:=fun _=>False) ⟨rfl,rfl,rfl,Nat.le_refl _,fun _ _ _=>rfl⟩ (by simp) (fun _=>False) (by simp)⟩
inductive It where
 |code (c:Code)
 |inB (id:Nat)
 |ops (all:Array Oper) (r:List Oper)
 |stop (K:Cx→St→Prop)
 |any (all:Array Oper) (fuel:Nat) (listed:Array Bool)
 |inS (l:Nat) (K:Cx→St→Prop)
def mz(P:Program)(R:Option Nat)(Φ:Exit→Cx→St→Prop):List It→Exit→Act→World→Prop
 |[],e,a,w=> ∃C s B,Φ e C s∧AS P R C B s a w
 | .code c::k,.normal,a,w=>c.wpIn (eg R) 0 P (mz P R Φ k) a w
 | .ops all r::k,.normal,a,w=>wpListIn (eg R) 0 P all (mz P R Φ k) r a w
 | .stop K::k,.normal,a,w=> ∃C s B,K C s∧AS P R C B s a w
 | .any all fuel listed::k,.normal,a,w=>wpAnyIn (eg R) 0 P .any all (mz P R Φ k) fuel listed a w
 | .inS l K::k,.goto l',a,w=>l'=l∧∃C s B,K C s∧AS P R C B s a w
 | .inB id::k,.exit id',a,w=>if id'=id then mz P R Φ k .normal a w else mz P R Φ k (.exit id') a w
 |_::k,e,a,w=>mz P R Φ k e a w
def AW(P:Program)(R:Option Nat)(Φ:Exit→Cx→St→Prop)(e:Exit)(k:List It)(C:Cx)(s:St):Prop:=
 ∀B a w,AS P R C B s a w→mz P R Φ k e a w
section
variable {P : Program} {R : Option Nat} {Φ : Exit → Cx → St → Prop} {k : List It} {C : Cx} {s : St}
theorem AW.nil{e:Exit}(h:Φ e C s):AW P R Φ e [] C s:=fun B a w ha=>⟨C,s,B,h,ha⟩
theorem AW.stop{K:Cx→St→Prop}(h:K C s):AW P R Φ .normal (.stop K::k) C s:=fun B a w ha=>⟨C,s,B,h,ha⟩
theorem AW.skip(h:AW P R Φ .normal k C s):AW P R Φ .normal (.code .skip::k) C s:=fun B a w ha=>wpIn_skip (h B a w ha)
theorem AW.label{l:Nat}(h:AW P R Φ .normal k C s):AW P R Φ .normal (.code (.label l)::k) C s:=fun B a w ha=>wpIn_label (h B a w ha)
theorem AW.seq{x y:Code}(h:AW P R Φ .normal (.code x:: .code y::k) C s):AW P R Φ .normal (.code (.seq x y)::k) C s:=fun B a w ha=>
 wpIn_seq (wpIn_mono (h B a w ha) (fun e a w hq=>by cases e<;>exact hq))
theorem AW.block{id:Nat}{c:Code}(h:AW P R Φ .normal (.code c:: .inB id::k) C s):AW P R Φ .normal (.code (.block id c)::k) C s:=fun B a w ha=>
 wpIn_block (wpIn_mono (h B a w ha) (fun e a w hq=>by cases e<;>exact hq))
theorem AW.inB{id:Nat}(h:AW P R Φ .normal k C s):AW P R Φ .normal (.inB id::k) C s:=fun B a w ha=>h B a w ha
theorem AW.exit{id:Nat}(h:AW P R Φ (.exit id) k C s):AW P R Φ .normal (.code (.exit id)::k) C s:=fun B a w ha=>wpIn_exit (h B a w ha)
theorem AW.goto{l:Nat}(h:AW P R Φ (.goto l) k C s):AW P R Φ .normal (.code (.goto l)::k) C s:=fun B a w ha=>wpIn_goto (h B a w ha)
theorem AW.ret(h:AW P R Φ .ret k C s):AW P R Φ .normal (.code .ret::k) C s:=fun B a w ha=>wpIn_ret (h B a w ha)
theorem aan{id:Nat}(h:AW P R Φ .normal k C s):AW P R Φ (.exit id) (.inB id::k) C s:=fun B a w ha=>by
 simp only[mz,if_true];exact h B a w ha
theorem akg{id id':Nat}(hne:id≠id')(h:AW P R Φ (.exit id) k C s):AW P R Φ (.exit id) (.inB id'::k) C s:=fun B a w ha=>by
 simp only[mz,if_neg hne];exact h B a w ha
theorem Td{e:Exit}{c:Code}(he:e≠ .normal)(h:AW P R Φ e k C s):AW P R Φ e (.code c::k) C s:=fun B a w ha=>by
 cases e<;>first|exact absurd rfl he|exact h B a w ha
theorem Tc{e:Exit}{K:Cx→St→Prop}(he:e≠ .normal)(h:AW P R Φ e k C s):AW P R Φ e (.stop K::k) C s:=fun B a w ha=>by
 cases e<;>first|exact absurd rfl he|exact h B a w ha
theorem AW.inS{l:Nat}{K:Cx→St→Prop}(h:AW P R Φ .normal k C s):AW P R Φ .normal (.inS l K::k) C s:=fun B a w ha=>h B a w ha
theorem aIk{id l:Nat}{K:Cx→St→Prop}(h:AW P R Φ (.exit id) k C s):AW P R Φ (.exit id) (.inS l K::k) C s:=fun B a w ha=>h B a w ha
theorem aki{e:Exit}{id:Nat}(he:∀i,e≠ .exit i)(h:AW P R Φ e k C s):AW P R Φ e (.inB id::k) C s:=fun B a w ha=>by
 cases e<;>first|exact absurd rfl (he _)|exact h B a w ha
theorem wb{e:Exit}{C':Cx}{s':St}(hw:∀B a w,AS P R C B s a w→∃B',AS P R C' B' s' a w)(h:AW P R Φ e k C' s'):AW P R Φ e k C s:=fun B a w ha=>by
 obtain⟨B',h'⟩:=hw B a w ha;exact h B' a w h'
theorem AW.cond{c:Operand}{x y:Code}{b:Bool}(hc:ev s c=some (.pv (.bool b)))(ht:b=true→AW P R Φ .normal (.code x::k) C s)(hf:b=false→AW P R Φ .normal (.code y::k) C s):AW P R Φ .normal (.code (.cond c x y)::k) C s:=fun B a w ha=>by
 obtain⟨hd,E,h⟩:=ha;have h1:=(lu h hc).bool_eq;refine wpIn_cond_split (t:=b) h1 (fun hb=> ?_) (fun hb=> ?_)
 ·exact ht hb B a w ⟨hd,E,h⟩
 ·exact hf hb B a w ⟨hd,E,h⟩
theorem am{c:Operand}{x y:Code}(hc:ev s c=some (.pv (.bool true)))(h:AW P R Φ .normal (.code x::k) C s):AW P R Φ .normal (.code (.cond c x y)::k) C s:=AW.cond hc (fun _=>h) (fun hb=>by cases hb)
theorem ae{c:Operand}{x y:Code}(hc:ev s c=some (.pv (.bool false)))(h:AW P R Φ .normal (.code y::k) C s):AW P R Φ .normal (.code (.cond c x y)::k) C s:=AW.cond hc (fun hb=>by cases hb) (fun _=>h)
theorem AW.region{id:Nat}{ops:Array Oper}(h:AW P R Φ .normal (.ops ops ops.toList::k) C s):AW P R Φ .normal (.code (.region id ops false)::k) C s:=fun B a w ha=>
 wpIn_region_list (h B a w ha)
theorem Nu{all:Array Oper}(h:AW P R Φ .normal k C s):AW P R Φ .normal (.ops all []::k) C s:=fun B a w ha=>h B a w ha
theorem Fy{o:Oper}(h:∀c,o.op≠ .defer c)(ρ:Operand→Value):∀R,Oper.semAt R ρ o=execOp ρ o
 |none=>Oper.semAt_none ρ o
 |some l=>Oper.semAt_some l ρ o h
theorem Uz{o:Oper}{s':St}(h:du P o s=some s'):∀c,o.op≠ .defer c:=fun c hc=>by
 unfold du at h;rw[hc]at h;split at h
 ·simp[reads,aval,Nz]at h
 ·simp at h
theorem cb{all:Array Oper}{o:Oper}{r:List Oper}{a:Act}{w:World}{Q:Exit→Act→World→Prop}(hw:Region.wanted o (yielded all a.tmps)=true)(hp:∀c,o.op≠ .defer c)
  (h:o.uponIn (eg R) 0 P a (wpListIn (eg R) 0 P all Q r) Q ((execOp a.eval o).run P w)):wpListIn (eg R) 0 P all Q (o::r) a w:=by
 unfold wpListIn;rw[if_pos hw];refine⟨fun f _=>trivial, ?_⟩
 rw[Fy hp];exact h
theorem AW.step{all:Array Oper}{o:Oper}{r:List Oper}{s':St}(hg:o.guard=none)(hs:du P o s=some s')(h:AW P R Φ .normal (.ops all r::k) C s'):AW P R Φ .normal (.ops all (o::r)::k) C s:=fun B a w ha=>by
 simp only[mz];refine cb (by simp[Region.wanted,hg]) (Uz hs) ?_
 obtain⟨hd,E,hE⟩:=ha;obtain⟨r',x,w',E',h1,h2,h3⟩:=Ge hE hs;rw[h1];rcases h2 with rfl|⟨rfl,rfl⟩
 ·exact h B _ _ ⟨by rw[cz];exact hd,E',h3⟩
 ·exact h B _ _ ⟨by rw[cz];exact hd,E',h3⟩
theorem Rel.putUn{O0:Base}{F:Nat→Prop}{w0 w:World}{E:Env}{tmps:Array Value}(h:Rel P O0 w0 F s E tmps w)(d:Nat):∃E',Rel P O0 w0 F (put d (.tup []) s) E' (tmps.setIfInBounds d undef) w:=by
 unfold put;split
 ·rename_i hd;obtain⟨hc,hf⟩:=h.clear d;simp only[SV.on,Bool.false_eq_true,if_false];exact hc.putTup (us:=[]) (by rw[ti];exact hd) hf rfl (by simp) (by simp)
 ·rename_i hd;rw[Array.setIfInBounds_eq_of_size_le (by rw[←h.size];omega)]
  exact⟨E,h⟩
theorem AS.unwanted{B:Bs}{a:Act}{w:World}(h:AS P R C B s a w){d:Nat}:AS P R C B (put d (.tup []) s) (a.put (some d) undef) w:=by
 obtain⟨hd,E,hE⟩:=h;obtain⟨E',h'⟩:=hE.putUn d;exact⟨hd,E',h'⟩
theorem AW.guard{all:Array Oper}{o:Oper}{r:List Oper}{j d:Nat}{want b:Bool}(hg:o.guard=some (j,want))(hd:o.dst=some d)(hb:ja all s j want=some b)
  (hy:b=want→AW P R Φ .normal (.ops all ({ o with guard:=none } ::r)::k) C s) (hn:b≠want→AW P R Φ .normal (.ops all r::k) C (put d (.tup []) s)):AW P R Φ .normal (.ops all (o::r)::k) C s:=fun B a w ha=>by
 have hyl:(yielded all a.tmps j==some want)=(b==want):=by obtain⟨_,E,hE⟩:=ha;exact ny hE hb
 by_cases hbw:b=want
 ·have:=hy hbw B a w ha;simp only[mz,wpListIn]at this⊢;rw[if_pos (by simp[Region.wanted])]at this
  rw[if_pos (by simp[Region.wanted,hg,hyl,hbw])]
  exact this
 ·simp only[mz,wpListIn];rw[if_neg (by simp[Region.wanted,hg,hyl,hbw]),hd]
  exact⟨fun _ _=>trivial,hn hbw B _ w ha.unwanted⟩
theorem iq{all:Array Oper}{o:Oper}{r:List Oper}{j:Nat}{want:Bool}(hg:o.guard=some (j,want))(hb:ja all s j want=some want)
  (hy:AW P R Φ .normal (.ops all ({ o with guard:=none } ::r)::k) C s):AW P R Φ .normal (.ops all (o::r)::k) C s:=fun B a w ha=>by
 have hyl:(yielded all a.tmps j==some want)=(want==want):=by obtain⟨_,E,hE⟩:=ha;exact ny hE hb
 have:=hy B a w ha;simp only[mz,wpListIn]at this⊢;rw[if_pos (by simp[Region.wanted])]at this
 rw[if_pos (by simp[Region.wanted,hg,hyl])]
 exact this
theorem aey{all:Array Oper}{o:Oper}{r:List Oper}{j d:Nat}{want:Bool}(hg:o.guard=some (j,want))(hd:o.dst=some d)(hb:ja all s j want=some (!want))
 (hn:AW P R Φ .normal (.ops all r::k) C (put d (.tup []) s)):AW P R Φ .normal (.ops all (o::r)::k) C s:=AW.guard hg hd hb (fun h=>by cases want<;>cases h) (fun _=>hn)
theorem nv{p:Nat→Prop}(h:∃n,p n):∃n,p n∧∀m,p m→n≤m:=by
 obtain⟨n,hn⟩:=h
 induction n using Nat.strongRecOn with
 |_ n ih=>
  by_cases hex:∃m,m<n∧p m
  ·obtain⟨m,hm,hp⟩:=hex;exact ih m hm hp
  ·refine⟨n,hn,fun m hp=> ?_⟩
   rcases Nat.lt_or_ge m n with h1|h1
   ·exact absurd ⟨m,h1,hp⟩ hex
   ·exact h1
theorem Tf{c:Code}{n:Nat}(I:Nat→Cx→St→Prop)(h0:I n C s)(round:∀n C s,I n C s→AW P R Φ .normal (.code c:: .stop (fun C' s'=> ∃m,m<n∧I m C' s')::k) C s):AW P R Φ .normal (.code (.loop c)::k) C s:=fun B a w ha=>by
 classical
 let J:Act→World→Prop:=fun a w=> ∃n,∃C s B,I n C s∧AS P R C B s a w
 let μ:Act→World→Nat:=fun a w=>if h:∃n,∃C s B,I n C s∧AS P R C B s a w then Classical.choose (nv h)else 0
 refine wpIn_loop J μ ⟨n,C,s,B,h0,ha⟩ (fun a w hJ=> ?_)
 obtain⟨⟨C1,s1,B1,hI,hA⟩,hmin⟩:=Classical.choose_spec (nv hJ);have hmu:μ a w=Classical.choose (nv hJ):=by simp only[μ];rw[dif_pos hJ]
 have hr:=round _ C1 s1 hI B1 a w hA;simp only[mz]at hr;refine wpIn_mono hr (fun e a' w' hq=> ?_)
 cases e<;>simp only[Exit.then]
 ·simp only[mz]at hq;obtain⟨C2,s2,B2,⟨m,hm,hI2⟩,hA2⟩:=hq;have hJ2:∃n,∃C s B,I n C s∧AS P R C B s a' w':=⟨m,C2,s2,B2,hI2,hA2⟩
  refine⟨hJ2, ?_⟩;have h2:μ a' w'=Classical.choose (nv hJ2):=by simp only[μ];rw[dif_pos hJ2]
  rw[hmu,h2];exact Nat.lt_of_le_of_lt ((Classical.choose_spec (nv hJ2)).2 m ⟨C2,s2,B2,hI2,hA2⟩) hm
 all_goals exact hq
theorem AW.loop{c:Code}{n:Nat}(I:Nat→St→Prop)(h0:I n s)(round:∀n s,I n s→AW P R Φ .normal (.code c:: .stop (fun C' s'=>C'=C∧∃m,m<n∧I m s')::k) C s):AW P R Φ .normal (.code (.loop c)::k) C s:=
 Tf (fun n C' s=>C'=C∧I n s) ⟨rfl,h0⟩ (fun n C' s ⟨e,h⟩=>by
  subst e;refine fun B a w ha=> ?_
  have:=round n s h B a w ha;simp only[mz]at this⊢;refine wpIn_mono this (fun e a w hq=> ?_)
  cases e<;>simp only[mz]at hq⊢
  ·obtain⟨C',s',B,⟨e,m,hm,hI⟩,hA⟩:=hq;exact⟨C',s',B,⟨m,hm,e,hI⟩,hA⟩
  all_goals exact hq)
theorem AW.join{c:Code}(K:Cx→St→Prop)(h:AW P R Φ .normal (.code c:: .stop K::k) C s)(hk:∀C s,K C s→AW P R Φ .normal k C s):AW P R Φ .normal (.code c::k) C s:=fun B a w ha=>by
 have:=h B a w ha;simp only[mz]at this⊢;refine wpIn_mono this (fun e a w hq=> ?_)
 cases e
 ·simp only[mz]at hq;obtain⟨C',s',B,hK,hA⟩:=hq;exact hk C' s' hK B a w hA
 all_goals exact hq
end
def AT(P:Program)(R:Option Nat)(all:Array Oper)(C:Cx)(K:St→Prop)(l:List Oper)(s:St):Prop:=
 ∀B a w (Q:Act→Prop),AS P R C B s a w→(∀s' a',K s'→AS P R C B s' a' w→Q a')→wpStill P all w Q l a
section
variable {P : Program} {R : Option Nat} {Φ : Exit → Cx → St → Prop} {k : List It} {C : Cx} {s : St} {all : Array Oper} {K : St → Prop}
theorem AT.nil(h:K s):AT P R all C K [] s:=fun B a w Q ha hK=>hK s a h ha
theorem AT.step{o:Oper}{r:List Oper}{s':St}(hg:o.guard=none)(hst:jf o=true)(hs:du P o s=some s')(h:AT P R all C K r s'):AT P R all C K (o::r) s:=fun B a w Q ha hK=>by
 obtain⟨hd,E,hE⟩:=ha;obtain⟨x,E',h1,h2⟩:=Uy hst hE hs;unfold wpStill;rw[if_pos (by simp[Region.wanted,hg]),Oper.still,h1,Oper.stillUpon_value]
 exact h B _ w Q ⟨by rw[cz];exact hd,E',h2⟩ hK
theorem AT.guard{o:Oper}{r:List Oper}{j d:Nat}{want b:Bool}(hg:o.guard=some (j,want))(hd:o.dst=some d)(hb:ja all s j want=some b)
  (hy:b=want→AT P R all C K ({ o with guard:=none } ::r) s) (hn:b≠want→AT P R all C K r (put d (.tup []) s)):AT P R all C K (o::r) s:=fun B a w Q ha hK=>by
 have hyl:(yielded all a.tmps j==some want)=(b==want):=by obtain⟨_,E,hE⟩:=ha;exact ny hE hb
 by_cases hbw:b=want
 ·have:=hy hbw B a w Q ha hK;unfold wpStill at this⊢;rw[if_pos (by simp[Region.wanted])]at this
  rw[if_pos (by simp[Region.wanted,hg,hyl,hbw])]
  exact this
 ·unfold wpStill;rw[if_neg (by simp[Region.wanted,hg,hyl,hbw]),hd]
  exact hn hbw B _ w Q ha.unwanted hK
end
end Go.Ck

/- What is proved: the law ExtractTakes returns true for every input and leaves its arguments as they were. Conditions: those of the given row and card alone (the table of package math/bits is laid as the program's text lays it). -/
import Derived.Test.YtmkoabmapmehdaaGreatDoorKzk
import Derived.Test.YtmkoabmapmehdaaGreatDoorZCtRb
set_option linter.all false
namespace Go.Proofs.YtmkoabmapmehdaaGreatDoor
open Go Go.Ck Go.RowKit Go.ChangeShapes Go.WideShapes Go.ChangeAt
set_option maxRecDepth 100000 in
theorem Ao(os:Os)(started:os.Started)(H:Type)(enc:TypeId×Value→H):
  ReturnsInHanded {} Tryz.checked os 3 .any (fun w args=>(Rows.extractTakesSpec.pre enc Tryz.prog Tryz.f3 [] false w args∧laidMetH Tryz.prog Yt w)∧sizedMet enc Tryz.prog Tryz.f3 (OpenSpec.ofChange Rows.extractTakesSpec) false w args)
   (Rows.extractTakesSpec.post enc Tryz.prog Tryz.f3 false true false false):=
 W8 (C:=Tryz.checked) (N:=4) (tb:=4) own started (by kernel_rfl) Tryz.func3
  (ChangeSpec.witness_shaped (enc:=enc) (C:=Tryz.checked) (os:=os) (X:=fun w _=>laidMetH Tryz.prog Yt w) false (World.doorLaid Tryz.prog 400 os) #[.slice none 0 0,.int .i64 0,.int .i64 0] 8 rfl (World.shaped_of_RefB (by kernel_rfl) (by kernel_rfl)) (by kernel_rfl) (by kernel_rfl) (by kernel_rfl) (ajo os _))
  apy aHc (by kernel_rfl) rfl (fun ds h=>by
   have h2:ds.length=3:=h
   match ds,h2 with
   |[a,b,c],_=>rfl) rfl (by kernel_rfl) (fun pl h=>by
   have e:Tryz.f3.params.toList=[22,3,3]:=by kernel_rfl
   rw[e]at h;obtain⟨p,q,r,rfl,h1,h2,h3⟩:=PA3 h;obtain⟨l,rfl,_,hl⟩:=ake (n:=2) (by kernel_rfl) (e:=5) (by kernel_rfl) (by kernel_rfl) h1.1 h1.2
   obtain⟨i,rfl,hi⟩:=ag1 (n:=3) (by kernel_rfl) h2.1 h2.2
   obtain⟨j,rfl,hj⟩:=ag1 (n:=3) (by kernel_rfl) h3.1 h3.2
   exact K7 l i j hl) gok
theorem Fk:Rows.ExtractTakesSaid:=
 OpenClaim.holds_of_wide 3 Tryz.f3 rfl rfl rfl rfl rfl rfl rfl ⟨rfl,rfl,rfl,rfl,rfl⟩ rfl rfl rfl rfl rfl (by kernel_rfl) Tryz.func3 (by kernel_rfl)
  (of_decide_eq_true (by kernel_rfl)) (by unfold Func.isWrapper;first|(rw[if_pos (by decide+kernel)];kernel_rfl)|(rw[if_neg (by decide+kernel)];exact⟨rfl,rfl⟩))
  (fun os started H enc _=>Ao os started H enc)
theorem extractTakes_holds:Rows.ExtractTakesCardSaid:=
 Claim7.holds_tied_plain_at .later [] [.data,.data] true (true, "bd45c4cd04bb4e311ae16538f87e026c02ab1c5c2a45cb6848eae039ed153915") true
  Fk (fun _ h=>by cases h) (by kernel_rfl) (fun _ h=>by cases h) extractTakes_row_tie rfl ⟨rfl,rfl⟩ (by kernel_rfl) rfl
  (fun f fn hf hfn=>by
   obtain rfl:f=3:=Option.some.inj ((show Tryz.prog.funcNamed "casket/casketlaw23.ExtractTakes" =some 3 by kernel_rfl).symm.trans hf)|>.symm
   obtain rfl:fn=Tryz.f3:=(Option.some.inj (Tryz.func3.symm.trans hfn)).symm;exact⟨by kernel_rfl,fun j t ht=>by
    have hall:(Tryz.f3.params.toList.all fun u=> !Tryz.prog.wantsStandIn u)=true:=by kernel_rfl
    have hm:t∈Tryz.f3.params.toList:=by simpa using Array.mem_of_getElem? ht
    exact(show Tryz.prog.wantsStandIn t=false by simpa using List.all_eq_true.1 hall t hm)⟩)
  (by kernel_rfl)
#print axioms extractTakes_holds
end Go.Proofs.YtmkoabmapmehdaaGreatDoor

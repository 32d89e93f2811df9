/- What is proved here: parts of the proofs of this seat's statements (a verified evaluator for calls over pure values, its laws, and contracts of functions). No condition. -/
import Derived.Test.YthjibccogjggbaaGreatKk
import Derived.Laws.StructEq
import Derived.OpenShut
import Derived.ChangeArms
import Derived.ChangeBears
import Derived.Carry
import Derived.ChangeCalls
import Derived.Handed
import Derived.SizedLaws
import Derived.LaidMore
import Derived.MakeChecks
import Derived.ChangeSame
import Derived.LaidLaws
import Derived.ProofKit
import Derived.Stop.Joined
set_option linter.all false
set_option linter.unusedVariables false
namespace Go.Ck
mutual
def stRun (P : Program) : Nat → Array Oper → List Oper → St → Option St
  | _, _, [], s => some s
  | 0, _, _ :: _, _ => none
  | n + 1, all, o :: r, s => stG P n all o r s o.guard
def stG (P : Program) : Nat → Array Oper → Oper → List Oper → St → Option (Nat × Bool) → Option St
  | 0, _, _, _, _, _ => none
  | n + 1, all, o, r, s, none => stK P n all r (stillOp o) (astep P o s)
  | n + 1, all, o, r, s, some (j, want) => stB P n all o r s (aguard all s j want) want
def stB (P : Program) : Nat → Array Oper → Oper → List Oper → St → Option Bool → Bool → Option St
  | n + 1, all, o, r, s, some true, true => stK P n all r (stillOp { o with guard := none }) (astep P o s)
  | n + 1, all, o, r, s, some false, false => stK P n all r (stillOp { o with guard := none }) (astep P o s)
  | n + 1, all, o, r, s, some true, false => stD P n all r s o.dst
  | n + 1, all, o, r, s, some false, true => stD P n all r s o.dst
  | _, _, _, _, _, _, _ => none
def stD (P : Program) : Nat → Array Oper → List Oper → St → Option Nat → Option St
  | n + 1, all, r, s, some d => stRun P n all r (put d (.tup []) s)
  | _, _, _, _, _ => none
def stK (P : Program) : Nat → Array Oper → List Oper → Bool → Option St → Option St
  | n + 1, all, r, true, some s' => stRun P n all r s'
  | _, _, _, _, _ => none
end
section
variable {P : Program} {R : Option Nat} {Φ : Exit → Cx → St → Prop} {k : List It} {C : Cx} {s : St} {all : Array Oper} {K : St → Prop}
theorem stRun_nil (n : Nat) (all : Array Oper) (s : St) : stRun P n all [] s = some s := by cases n <;> rfl
theorem stRun_cons (n : Nat) (all : Array Oper) (o : Oper) (r : List Oper) (s : St) : stRun P (n + 1) all (o :: r) s = stG P n all o r s o.guard := rfl
theorem stG_none (n : Nat) (all : Array Oper) (o : Oper) (r : List Oper) (s : St) : stG P (n + 1) all o r s none = stK P n all r (stillOp o) (astep P o s) := rfl
theorem stG_some (n : Nat) (all : Array Oper) (o : Oper) (r : List Oper) (s : St) (j : Nat) (want : Bool) : stG P (n + 1) all o r s (some (j, want)) = stB P n all o r s (aguard all s j want) want := rfl
theorem stB_tt (n : Nat) (all : Array Oper) (o : Oper) (r : List Oper) (s : St) : stB P (n + 1) all o r s (some true) true = stK P n all r (stillOp { o with guard := none }) (astep P o s) := rfl
theorem stB_ff (n : Nat) (all : Array Oper) (o : Oper) (r : List Oper) (s : St) : stB P (n + 1) all o r s (some false) false = stK P n all r (stillOp { o with guard := none }) (astep P o s) := rfl
theorem stB_tf (n : Nat) (all : Array Oper) (o : Oper) (r : List Oper) (s : St) : stB P (n + 1) all o r s (some true) false = stD P n all r s o.dst := rfl
theorem stB_ft (n : Nat) (all : Array Oper) (o : Oper) (r : List Oper) (s : St) : stB P (n + 1) all o r s (some false) true = stD P n all r s o.dst := rfl
theorem stD_some (n : Nat) (all : Array Oper) (r : List Oper) (s : St) (d : Nat) : stD P (n + 1) all r s (some d) = stRun P n all r (put d (.tup []) s) := rfl
theorem stK_some (n : Nat) (all : Array Oper) (r : List Oper) (s' : St) : stK P (n + 1) all r true (some s') = stRun P n all r s' := rfl
attribute [go_sem] stRun_nil stRun_cons stG_none stG_some stB_tt stB_ff stB_tf stB_ft stD_some stK_some stillOp
theorem astep_noguard (o : Oper) (s : St) : astep P { o with guard := none } s = astep P o s := rfl
mutual
theorem AT.run : ∀ (n : Nat) {l : List Oper} {s s' : St}, stRun P n all l s = some s' → K s' → AT P R all C K l s
  | n, [], s, s', h, hk => by rw [stRun_nil] at h; cases h; exact AT.nil hk
  | 0, _ :: _, s, s', h, hk => by simp [stRun] at h
  | n + 1, o :: r, s, s', h, hk => by
    rw [stRun_cons] at h
    exact AT.runG n h rfl hk
theorem AT.runG : ∀ (n : Nat) {o : Oper} {r : List Oper} {s s' : St} {g : Option (Nat × Bool)}, stG P n all o r s g = some s' → o.guard = g → K s' → AT P R all C K (o :: r) s
  | 0, _, _, _, _, _, h, _, _ => by simp [stG] at h
  | n + 1, o, r, s, s', none, h, hg, hk => by
    rw [stG_none] at h
    cases n with
    | zero => cases stillOp o <;> simp [stK] at h
    | succ n =>
      cases hst : stillOp o with
      | false => rw [hst] at h; simp [stK] at h
      | true =>
        cases hs : astep P o s with
        | none => rw [hst, hs] at h; simp [stK] at h
        | some s1 =>
          rw [hst, hs, stK_some] at h
          exact AT.step hg hst hs (AT.run n h hk)
  | n + 1, o, r, s, s', some (j, want), h, hg, hk => by
    rw [stG_some] at h
    cases n with
    | zero => cases aguard all s j want <;> simp [stB] at h
    | succ n =>
      cases hb : aguard all s j want with
      | none => rw [hb] at h; simp [stB] at h
      | some b =>
        rw [hb] at h
        by_cases hbw : b = want
        · have h' : stK P n all r (stillOp { o with guard := none }) (astep P o s) = some s' := by
            subst hbw
            cases b <;> exact h
          cases n with
          | zero => cases stillOp { o with guard := none } <;> simp [stK] at h'
          | succ n =>
            cases hst : stillOp { o with guard := none } with
            | false => rw [hst] at h'; simp [stK] at h'
            | true =>
              cases hs : astep P o s with
              | none => rw [hst, hs] at h'; simp [stK] at h'
              | some s1 =>
                rw [hst, hs, stK_some] at h'
                cases hd : o.dst with
                | none =>
                  exfalso
                  unfold stillOp at hst
                  simp [hd] at hst
                | some d => exact AT.guard hg hd hb (fun _ => AT.step rfl hst (by rw [astep_noguard]; exact hs) (AT.run n h' hk)) (fun hn => absurd hbw hn)
        · have h' : stD P n all r s o.dst = some s' := by
            cases b <;> cases want <;> first | exact absurd rfl hbw | exact h
          cases hd : o.dst with
          | none => rw [hd] at h'; cases n <;> simp [stD] at h'
          | some d =>
            rw [hd] at h'
            cases n with
            | zero => simp [stD] at h'
            | succ n =>
              rw [stD_some] at h'
              exact AT.guard hg hd hb (fun hn => absurd hn hbw) (fun _ => AT.run n h' hk)
end
/-- Still operations, in whatever order. -/
theorem AW.sr {id : Nat} {l : List Oper} {s' : St} (hm : P.follows .mixedOrders = true) (hB : Region.lexB .any l.toArray = true) (h : AW P R Φ .normal k C s') (hn : stRun P 1000 l.toArray l s = some s' := by simp only [go_sem, ↓reduceIte] <;> rfl) : AW P R Φ .normal (.code (.region id l.toArray true) :: k) C s :=
  AW.still hm hB (AT.run 1000 hn h)
theorem AW.srTail {id : Nat} {l : List Oper} {s' : St} (n : Nat) (hm : P.follows .mixedOrders = true) (hB : Region.lexTailB .any l.toArray n = true) (h : AW P R Φ .normal (.ops l.toArray (l.drop n) :: k) C s') (hn : stRun P 1000 l.toArray (l.take n) s = some s' := by simp only [go_sem, ↓reduceIte, List.take_succ_cons, List.take_zero] <;> rfl) : AW P R Φ .normal (.code (.region id l.toArray true) :: k) C s :=
  AW.stillTail n hm hB (AT.run 1000 hn h)
end
attribute [go_sem] List.drop_succ_cons List.drop_zero List.take_succ_cons List.take_zero
end Go.Ck

set_option linter.unusedVariables false
namespace Go.Ck
open Go.RowKit
section
variable {P : Program} {R : Option Nat} {Φ : Exit → Cx → St → Prop} {k : List It} {C : Cx} {s : St} {all : Array Oper}
theorem AW.opsAny {listed : Array Bool} (hr : Region.ready .any all listed = []) : ∀ {l : List Oper} , (∀ B a w, AS P R C B s a w → wpListIn (fence R) 0 P all (den P R Φ k) l a w → wpListIn (fence R) 0 P all (den P R Φ (.any all 0 listed :: k)) l a w) := by
  have H : ∀ (l : List Oper) a w, wpListIn (fence R) 0 P all (den P R Φ k) l a w → wpListIn (fence R) 0 P all (den P R Φ (.any all 0 listed :: k)) l a w := by
    intro l
    induction l with
    | nil =>
      intro a w h
      simp only [wpListIn] at h ⊢
      exact wpAnyIn_done hr h 0
    | cons o r ih =>
      intro a w h
      simp only [wpListIn] at h ⊢
      split
      · rename_i hw
        rw [if_pos hw] at h
        exact wpIn_congrQ (fun e a w he hq => by cases e <;> first | exact absurd rfl he | exact hq) (fun a w hq => ih a w hq) h
      · rename_i hw
        rw [if_neg hw] at h
        exact ⟨h.1, ih _ _ h.2⟩
  exact fun {l} B a w _ h => H l a w h

theorem Ends.noPanic {res : List ResultVar} {H : List (Nat × HO)} {Ψ : List SV → List (Nat × HO) → Prop} : ∀ c C' s, ¬ Ends P res H Ψ C (.panic c) C' s := fun c C' s h => by
  rcases h.2.1 with h | h <;> cases h

/-- Operations p that need no world, then q in this order. -/
theorem AW.ts {id : Nat} {res : List ResultVar} {H : List (Nat × HO)} {Ψ : List SV → List (Nat × HO) → Prop} {C' : Cx} {s' : St} {rest : List Oper} (p q : List Nat) (hm : P.follows .mixedOrders = true)
    (hk : (match takeChk all p (Array.replicate all.size false) with
      | some L1 => (match seqChk all q L1 with
        | some L2 => Region.noSelect all && (Region.ready .any all L2).isEmpty && p.length + q.length == all.size
        | none => false)
      | none => false) = true)
    (h : AW P none (Ends P res H Ψ C') .normal (.ops all rest :: k) C s') (hs : Ck.takes P all p s = some s' := by simp only [go_sem, ↓reduceIte] <;> rfl) (hq : pickOps all q = rest := by simp only [pickOps, List.getElem?_toArray, List.getElem?_cons_zero, List.getElem?_cons_succ] <;> rfl) : AW P none (Ends P res H Ψ C') .normal (.code (.region id all true) :: k) C s := by
  subst hq
  split at hk
  · rename_i L1 h1
    split at hk
    · rename_i L2 h2
      simp only [Bool.and_eq_true, beq_iff_eq] at hk
      obtain ⟨⟨hsel, hr⟩, hsz⟩ := hk
      have hr : Region.ready .any all L2 = [] := by simpa using hr
      refine AW.any0 hm ?_
      have e : all.size = (0 + q.length) + p.length := by omega
      suffices key : ∀ n, n = (0 + q.length) + p.length → AW P none (Ends P res H Ψ C') .normal (.any all n (Array.replicate all.size false) :: k) C s from key _ e
      rintro n rfl
      refine AW.takes p ?_ hs Ends.noPanic h1 hsel
      refine AW.seqs q ?_ h2
      intro B a w ha
      exact AW.opsAny hr (s := s') (C := C) B a w ha (h B a w ha)
    · cases hk
  · cases hk
end
theorem takes_nil (P : Program) (all : Array Oper) (s : St) : takes P all [] s = some s := rfl
def takesK (P : Program) (all : Array Oper) (r : List Nat) : Option St → Option St
  | some s' => takes P all r s'
  | none => none
theorem takes_cons (P : Program) (all : Array Oper) (i : Nat) (r : List Nat) (s : St) : takes P all (i :: r) s = takesK P all r (takeOne P all i s) := by
  simp only [takes]
  cases takeOne P all i s <;> rfl
attribute [go_sem] takes_nil takes_cons takesK takeOne wiOp noEnter
end Go.Ck
namespace Go.Ck
attribute [go_sem] List.getElem?_toArray List.getElem?_cons_zero List.getElem?_cons_succ
end Go.Ck

set_option linter.unusedVariables false
namespace Go.Ck
section
variable {P : Program} {R : Option Nat} {Φ : Exit → Cx → St → Prop} {k : List It} {C : Cx} {s : St}
theorem AW.nilsOwnAt {e : Exit} (p : Place) (t : TypeId) (h : AW P R Φ e k C (setAt p (.own t []) s)) (hl : s.at p = some .nils := by rfl) : AW P R Φ e k C s :=
  AW.weak (fun B a w ha => by
    obtain ⟨hd, E, hE⟩ := ha
    obtain ⟨x, hx, hv⟩ := hE.place p _ hl
    have hv' : RS P (fun b => E.om b ∨ B.F b) E w .nils x := hv
    cases hv'
    have := hE.recast (p := p) (v := .own t []) (y := .slice none 0 0) (x := .slice none 0 0) hl rfl rfl (hE.free_of (fun e' xs he => by rw [hl] at he; cases he)) rfl hx (.inr rfl)
      (by simp only [PVal, Env.setHdr_same]; exact ⟨trivial, ⟨[], World.ownsRow_nil w 0 _ _, ROs.nil _ _, by simp, by simp⟩, by simp [Value.ownBlock]⟩) (by simp [SV.on]) (fun _ b hb => by simp [Value.ownBlock] at hb) (by simp [SV.pts])
    exact ⟨B, hd, _, this⟩) h
end
end Go.Ck
namespace Go.Ck
theorem pickOps_nil (all : Array Oper) : pickOps all [] = [] := rfl
def pickK (all : Array Oper) (r : List Nat) : Option Oper → List Oper
  | some o => o :: pickOps all r
  | none => pickOps all r
theorem pickOps_cons (all : Array Oper) (i : Nat) (r : List Nat) : pickOps all (i :: r) = pickK all r all[i]? := by
  simp only [pickOps]
  cases all[i]? <;> rfl
attribute [go_sem] pickOps_nil pickOps_cons pickK
end Go.Ck

set_option linter.unusedVariables false
namespace Go.Ck
open Go.RowKit
section
variable {P : Program} {R : Option Nat} {Φ : Exit → Cx → St → Prop} {k : List It} {C : Cx} {s : St}
end
end Go.Ck
namespace Go.Ck
end Go.Ck

set_option linter.unusedVariables false
namespace Go.Ck
open Go.RowKit
section
variable {P : Program} {R : Option Nat} {Φ : Exit → Cx → St → Prop} {k : List It} {C : Cx} {s : St} {all : Array Oper} {j dj : Nat} {v : Option Bool}
end
end Go.Ck

set_option linter.unusedVariables false
namespace Go.Ck
open Go.RowKit
section
variable {P : Program} {R : Option Nat} {Φ : Exit → Cx → St → Prop} {k : List It} {C : Cx} {s : St}
end
end Go.Ck

set_option linter.unusedVariables false
namespace Go.Ck
open Go.RowKit
/-- Cells of a type. -/
def PT (P : Program) : Nat → TypeId → List PV → Prop
  | 0, _, _ => False
  | n + 1, t, cs => match P.underlying t with
    | some .bool => ∃ b, cs = [.bool b]
    | some (.int k) => ∃ m, cs = [.int k m] ∧ (Lit.int k m).wf = true
    | some .string => ∃ s, cs = [.str s] ∧ s.length ≤ maxLen
    | some (.slice e) => ∃ xs, cs = [.sl (P.cellsOf e) xs] ∧ xs.length ≤ maxLen ∧ ∀ x ∈ xs, PT P n e x.cells ∧ x.one = !isAggT P e
    | some (.struct fs) => ∃ pss : List (List PV), cs = pss.flatten ∧ pss.length = fs.size ∧ ∀ (i : Nat) (f : Field) (ps : List PV), fs[i]? = some f → pss[i]? = some ps → PT P n f.type ps ∧ ps.length = P.cellsOf f.type
    | some (.array m e) => ∃ pss : List (List PV), cs = pss.flatten ∧ pss.length = m ∧ ∀ ps ∈ pss, PT P n e ps ∧ ps.length = P.cellsOf e
    | _ => False
/-- Is the type one of those? -/
def okP (P : Program) : Nat → TypeId → Bool
  | 0, _ => false
  | n + 1, t => match P.underlying t with
    | some .bool => true
    | some (.int _) => true
    | some .string => true
    | some (.slice e) => okP P n e && decide (0 < P.cellsOf e)
    | some (.struct fs) => fs.all fun f => okP P n f.type
    | some (.array _ e) => okP P n e
    | _ => false

def noA : Nat → Prop := fun _ => False

section
variable {P : Program} {w : World}
theorem parts_of : ∀ (fs : List Field) (cs : List Value) (Q : TypeId → List PV → Prop), cs.length = (fs.map fun f => P.cellsOf f.type).sum →
    (∀ (i : Nat) (f : Field), fs[i]? = some f → ∃ ps, Q f.type ps ∧ ROs noA w ps ((cs.drop ((fs.take i).map fun f => P.cellsOf f.type).sum).take (P.cellsOf f.type))) →
    ∃ pss : List (List PV), pss.length = fs.length ∧ ROs noA w pss.flatten cs ∧ ∀ (i : Nat) (f : Field) (ps : List PV), fs[i]? = some f → pss[i]? = some ps → Q f.type ps ∧ ps.length = P.cellsOf f.type
  | [], cs, Q, hl, h => by
    have : cs = [] := List.length_eq_zero_iff.1 hl
    subst this
    exact ⟨[], rfl, ROs.nil _ _, by simp⟩
  | f :: fs, cs, Q, hl, h => by
    simp only [List.map_cons, List.sum_cons] at hl
    obtain ⟨ps0, q0, r0⟩ := h 0 f rfl
    simp only [List.take_zero, List.map_nil, List.sum_nil, List.drop_zero] at r0
    obtain ⟨pss, h1, h2, h3⟩ := parts_of fs (cs.drop (P.cellsOf f.type)) Q (by simp; omega) (fun i g hg => by
      obtain ⟨ps, q, r⟩ := h (i + 1) g (by simpa using hg)
      refine ⟨ps, q, ?_⟩
      simp only [List.take_succ_cons, List.map_cons, List.sum_cons] at r
      rw [List.drop_drop]
      exact r)
    refine ⟨ps0 :: pss, by simp [h1], ?_, fun i g ps hg hp => ?_⟩
    · have := r0.append h2
      rw [List.take_append_drop] at this
      simpa using this
    · cases i with
      | zero =>
        simp at hg hp
        subst hg; subst hp
        refine ⟨q0, ?_⟩
        have := r0.1
        simp at this
        omega
      | succ i => exact h3 i g ps (by simpa using hg) (by simpa using hp)

theorem arr_of : ∀ (m z : Nat) (cs : List Value) (Q : List PV → Prop), cs.length = m * z →
    (∀ i, i < m → ∃ ps, Q ps ∧ ROs noA w ps ((cs.drop (i * z)).take z)) →
    ∃ pss : List (List PV), pss.length = m ∧ ROs noA w pss.flatten cs ∧ ∀ ps ∈ pss, Q ps ∧ ps.length = z
  | 0, z, cs, Q, hl, h => by
    have : cs = [] := List.length_eq_zero_iff.1 (by simpa using hl)
    subst this
    exact ⟨[], rfl, ROs.nil _ _, by simp⟩
  | m + 1, z, cs, Q, hl, h => by
    have hz : (m + 1) * z = z + m * z := by rw [Nat.add_mul, Nat.one_mul, Nat.add_comm]
    obtain ⟨ps0, q0, r0⟩ := h 0 (by omega)
    simp only [Nat.zero_mul, List.drop_zero] at r0
    obtain ⟨pss, h1, h2, h3⟩ := arr_of m z (cs.drop z) Q (by simp; omega) (fun i hi => by
      obtain ⟨ps, q, r⟩ := h (i + 1) (by omega)
      refine ⟨ps, q, ?_⟩
      rw [List.drop_drop]
      rwa [show (i + 1) * z = z + i * z by rw [Nat.add_mul, Nat.one_mul, Nat.add_comm]] at r)
    refine ⟨ps0 :: pss, by simp [h1], ?_, fun ps hp => ?_⟩
    · have := r0.append h2
      rw [List.take_append_drop] at this
      simpa using this
    · rcases List.mem_cons.1 hp with rfl | hp
      · refine ⟨q0, ?_⟩
        have := r0.1
        simp at this
        omega
      · exact h3 ps hp

theorem PT.one {n : Nat} {t : TypeId} {ps : List PV} (h : PT P n t ps) (ha : isAggT P t = false) : ∃ p, ps = [p] := by
  cases n with
  | zero => exact h.elim
  | succ n =>
    unfold PT at h
    unfold isAggT at ha
    split at h
    · obtain ⟨b, rfl⟩ := h; exact ⟨_, rfl⟩
    · obtain ⟨b, rfl, _⟩ := h; exact ⟨_, rfl⟩
    · obtain ⟨b, rfl, _⟩ := h; exact ⟨_, rfl⟩
    · obtain ⟨b, rfl, _⟩ := h; exact ⟨_, rfl⟩
    · rename_i hu; rw [hu] at ha; cases ha
    · rename_i hu; rw [hu] at ha; cases ha
    · exact h.elim

/-- Elements of a slice, one after another. -/
theorem elems_of {n : Nat} {e : TypeId} {a : Addr} (hz : 0 < P.cellsOf e) : ∀ (len : Nat), (∀ i, i < len → ∃ cs ps, w.cells? 0 (a.add (i * P.cellsOf e)) (P.cellsOf e) = some cs ∧ PT P n e ps ∧ ROs noA w ps cs) →
    ∃ (xs : List PV) (vs : List Value), xs.length = len ∧ ROs noA w (flat xs) vs ∧ vs.length = len * P.cellsOf e ∧ (∀ (j : Nat) (v : Value), vs[j]? = some v → w.cell? (a.add j) = some v) ∧ (∀ x ∈ xs, x.cells.length = P.cellsOf e) ∧ ∀ x ∈ xs, PT P n e x.cells ∧ x.one = !isAggT P e
  | 0, h => ⟨[], [], rfl, ROs.nil _ _, by simp, by simp, by simp, by simp⟩
  | len + 1, h => by
    obtain ⟨xs, vs, h1, h2, h3, h4, h5, h6⟩ := elems_of hz len (fun i hi => h i (by omega))
    obtain ⟨cs, ps, k1, k2, k3⟩ := h len (by omega)
    obtain ⟨_, c2, c3⟩ := World.cells?_some k1
    have hadd : ∀ j, (a.add (len * P.cellsOf e)).add j = a.add (len * P.cellsOf e + j) := fun j => by
      unfold Addr.add
      by_cases hi : len * P.cellsOf e = 0 <;> by_cases hj : j = 0 <;> simp [hi, hj, Nat.add_assoc]
    obtain ⟨x, hx1, hx2⟩ : ∃ x : PV, x.cells = ps ∧ x.one = !isAggT P e := by
      cases ha : isAggT P e with
      | true => exact ⟨.agg ps, rfl, rfl⟩
      | false =>
        obtain ⟨p, rfl⟩ := k2.one ha
        have hp := k3.2.1 p (by simp)
        refine ⟨p, ?_, by simpa using hp⟩
        cases p <;> first | rfl | simp [PV.one] at hp
    refine ⟨xs ++ [x], vs ++ cs, by simp [h1], ?_, ?_, fun j v hv => ?_, ?_, ?_⟩
    · rw [flat_append, flat_cons, flat_nil, List.append_nil, hx1]
      exact h2.append k3
    · rw [List.length_append, h3, c2, Nat.add_mul, Nat.one_mul]
    · by_cases hj : j < vs.length
      · rw [List.getElem?_append_left hj] at hv
        exact h4 j v hv
      · rw [List.getElem?_append_right (by omega)] at hv
        have hlt : j - vs.length < P.cellsOf e := by
          have := (List.getElem?_eq_some_iff.1 hv).1
          omega
        have := c3 (j - vs.length) hlt
        rw [hadd, ← h3, show vs.length + (j - vs.length) = j by omega] at this
        rw [this]; exact hv
    · intro y hy
      rcases List.mem_append.1 hy with hy | hy
      · exact h5 y hy
      · simp at hy; subst hy
        rw [hx1, ← c2, k3.1]
    · intro y hy
      rcases List.mem_append.1 hy with hy | hy
      · exact h6 y hy
      · simp at hy; subst hy
        exact ⟨by rw [hx1]; exact k2, hx2⟩

theorem trod_PT {H : Type} {enc : TypeId × Value → H} {sp : Nat → Bool} {held : Bool} (hl : laidOutB P = true) (hm : mapsRowed P = true) : ∀ (n : Nat) (t : TypeId) (m : Nat) (cs : List Value) (x : DataW H × List MemPlace),
    t < P.types.size → okP P n t = true → DataW.trod enc P w 0 sp held m t cs = some x → ∃ ps, PT P n t ps ∧ ROs noA w ps cs
  | 0, t, m, cs, x, ht, hk, h => by simp [okP] at hk
  | n + 1, t, m, cs, x, ht, hk, h => by
    have K := kids_rows hl hm
    have e : PT P (n + 1) t = fun cs => (match P.underlying t with
      | some .bool => ∃ b, cs = [.bool b]
      | some (.int k) => ∃ m, cs = [.int k m] ∧ (Lit.int k m).wf = true
      | some .string => ∃ s, cs = [.str s] ∧ s.length ≤ maxLen
      | some (.slice e) => ∃ xs, cs = [.sl (P.cellsOf e) xs] ∧ xs.length ≤ maxLen ∧ ∀ x ∈ xs, PT P n e x.cells ∧ x.one = !isAggT P e
      | some (.struct fs) => ∃ pss : List (List PV), cs = pss.flatten ∧ pss.length = fs.size ∧ ∀ (i : Nat) (f : Field) (ps : List PV), fs[i]? = some f → pss[i]? = some ps → PT P n f.type ps ∧ ps.length = P.cellsOf f.type
      | some (.array m e) => ∃ pss : List (List PV), cs = pss.flatten ∧ pss.length = m ∧ ∀ ps ∈ pss, PT P n e ps ∧ ps.length = P.cellsOf e
      | _ => False) := rfl
    rw [e]
    unfold okP at hk
    have one : ∀ (p : PV) (v : Value), p.one = true → RO noA w p v → ROs noA w [p] [v] := fun p v hp hr =>
      ⟨rfl, by simpa using hp, fun i c u hc hu => by
        cases i with
        | zero => simp at hc hu; subst hc; subst hu; exact hr
        | succ i => simp at hc⟩
    split at hk
    · rename_i hu
      obtain ⟨b, rfl, _⟩ := DataW.trod_bool hu h
      simp only [hu]
      exact ⟨_, ⟨b, rfl⟩, one _ _ rfl (.bool b)⟩
    · rename_i k hu
      obtain ⟨z, rfl, _, hw⟩ := DataW.trod_int hu h
      simp only [hu]
      exact ⟨_, ⟨z, rfl, hw⟩, one _ _ rfl (.int k z)⟩
    · rename_i hu
      obtain ⟨s, rfl, _, hs⟩ := DataW.trod_string hu h
      simp only [hu]
      refine ⟨_, ⟨s.data.toList, rfl, by simpa using hs⟩, one _ _ rfl ?_⟩
      have e : (⟨s.data.toList.toArray⟩ : ByteArray) = s := by simp
      have := RO.str (A := noA) (w := w) s.data.toList
      rwa [e] at this
    · rename_i el hu
      simp only [Bool.and_eq_true, decide_eq_true_eq] at hk
      simp only [hu]
      rcases DataW.trod_slice hu h with ⟨rfl, _⟩ | ⟨a, len, cap, els, rest, m', _, rfl, _, _, h1, h2, h3, h4, _, _⟩
      · refine ⟨_, ⟨[], rfl, by simp, by simp⟩, one _ _ rfl ?_⟩
        exact RO.mkSl (ROs.nil _ _) (by simp) (by simp) (by simp) (Nat.le_refl _)
      · obtain ⟨xs, vs, k1, k2, k3, k4, k5, k6⟩ := elems_of (n := n) (a := a) hk.2 len (fun i hi => by
          have hi4 := h4 i hi
          obtain ⟨y, hy⟩ : ∃ y, els[i]? = some y := ⟨_, List.getElem?_eq_getElem (by omega)⟩
          rw [hy, Option.bind_eq_some_iff] at hi4
          obtain ⟨cs, c1, c2⟩ := hi4
          obtain ⟨ps, p1, p2⟩ := trod_PT hl hm n el m' cs y (K.slice ht hu) hk.1 c2
          exact ⟨cs, ps, c1, p1, p2⟩)
        refine ⟨_, ⟨xs, rfl, by omega, k6⟩, one _ _ rfl ?_⟩
        rw [← k1]
        exact RO.mkSl k2 (fun i v hv => ⟨a, rfl, fun hf => hf, k4 i v hv⟩) k5 (by omega) (by omega)
    · rename_i fs hu
      simp only [hu]
      obtain ⟨xs, m', _, _, h1, h2, h3⟩ := DataW.trod_struct hu h
      obtain ⟨s1, s2, s3⟩ := K.struct ht hu
      rw [s2] at h1
      obtain ⟨pss, k1, k2, k3⟩ := parts_of (P := P) (w := w) fs.toList cs (fun t ps => PT P n t ps) h1 (fun i f hf => by
        have hf' : fs[i]? = some f := by simpa using hf
        have hi3 := h3 i f hf'
        have hlt : i < xs.length := by
          rw [h2]
          exact (Array.getElem?_eq_some_iff.1 hf').1
        rw [List.getElem?_eq_getElem hlt, s3 i f hf] at hi3
        exact trod_PT hl hm n f.type m' _ _ (s1 f (List.mem_of_getElem? hf)) (by
          have := Array.all_eq_true.1 hk i (Array.getElem?_eq_some_iff.1 hf').1
          rwa [(Array.getElem?_eq_some_iff.1 hf').2] at this) hi3)
      exact ⟨_, ⟨pss, rfl, by simpa using k1, fun i f ps hf hp => k3 i f ps (by simpa using hf) hp⟩, k2⟩
    · rename_i len el hu
      simp only [hu]
      obtain ⟨xs, m', _, _, h1, h2, h3⟩ := DataW.trod_array hu h
      obtain ⟨s1, s2⟩ := K.array ht hu
      rw [s2] at h1
      obtain ⟨pss, k1, k2, k3⟩ := arr_of (w := w) len (P.cellsOf el) cs (fun ps => PT P n el ps) h1 (fun i hi => by
        have hi3 := h3 i hi
        rw [List.getElem?_eq_getElem (by omega)] at hi3
        exact trod_PT hl hm n el m' _ _ s1 hk hi3)
      exact ⟨_, ⟨pss, rfl, k1, k3⟩, k2⟩
    · cases hk
end
end Go.Ck

set_option linter.unusedVariables false
namespace Go.Ck
open Go.RowKit Go.ChangeShapes Go.WideShapes Go.ChangeAt
/-- Arguments of these types. -/
def PA (P : Program) (N : Nat) (ts : List TypeId) (pl : List PV) : Prop := pl.length = ts.length ∧ ∀ (j : Nat) (t : TypeId) (p : PV), ts[j]? = some t → pl[j]? = some p → PT P N t p.cells ∧ p.one = !isAggT P t

section
variable {P : Program} {W : World}
theorem ROs.agg {A : Nat → Prop} {w : World} {ps : List PV} {vs : Array Value} (h : ROs A w ps vs.toList) : RO A w (.agg ps) (.agg vs) :=
  .agg ps vs (by simpa using h.1) h.2.1 (fun i c v hc hv => h.2.2 i c v hc (by simpa using hv))

theorem one_value {N : Nat} {t : TypeId} {v : Value} {base : Nat} (hk : okP P N t = true) (hok : Value.okWide P W .any base t v) :
    (isAggT P t = true → ∃ cs, v = .agg cs) ∧ (isAggT P t = false → v.cells = #[v]) := by
  cases N with
  | zero => simp [okP] at hk
  | succ n =>
    unfold okP at hk
    unfold isAggT
    split at hk
    · rename_i hu
      rw [hu]
      refine ⟨fun h => (by cases h), fun _ => ?_⟩
      simp only [Value.okWide, hu, Cell.okWide] at hok
      cases v <;> simp_all [Cell.ok, Value.cells]
    · rename_i k hu
      rw [hu]
      refine ⟨fun h => (by cases h), fun _ => ?_⟩
      obtain ⟨z, rfl⟩ := okWide_int hu hok
      rfl
    · rename_i hu
      rw [hu]
      refine ⟨fun h => (by cases h), fun _ => ?_⟩
      obtain ⟨z, rfl⟩ := okWide_string hu hok
      rfl
    · rename_i e hu
      rw [hu]
      refine ⟨fun h => (by cases h), fun _ => ?_⟩
      obtain ⟨a, l, c, rfl⟩ := okWide_slice hu hok
      rfl
    · rename_i fs hu
      rw [hu]
      refine ⟨fun _ => ?_, fun h => (by cases h)⟩
      simp only [Value.okWide, hu] at hok
      obtain ⟨cs, h, _⟩ := hok
      exact ⟨cs, h⟩
    · rename_i m e hu
      rw [hu]
      refine ⟨fun _ => ?_, fun h => (by cases h)⟩
      simp only [Value.okWide, hu] at hok
      obtain ⟨cs, h, _⟩ := hok
      exact ⟨cs, h⟩
    · cases hk

theorem arg_PT {H : Type} {enc : TypeId × Value → H} {sp : Nat → Bool} {held : Bool} (hl : laidOutB P = true) (hm : mapsRowed P = true) {N : Nat} {t : TypeId} {v : Value} {d : DataW H} {ps : List MemPlace} {base : Nat}
    (ht : t < P.types.size) (hk : okP P N t = true) (hok : Value.okWide P W .any base t v) (h : DataW.Trod enc P W 0 sp held t v d ps) : ∃ p, PT P N t p.cells ∧ p.one = (!isAggT P t) ∧ RO noA W p v := by
  obtain ⟨m, hm'⟩ := h
  obtain ⟨qs, h1, h2⟩ := trod_PT hl hm N t m _ _ ht hk hm'
  obtain ⟨o1, o2⟩ := one_value hk hok
  cases ha : isAggT P t with
  | true =>
    obtain ⟨cs, rfl⟩ := o1 ha
    exact ⟨.agg qs, h1, rfl, ROs.agg h2⟩
  | false =>
    obtain ⟨p, rfl⟩ := h1.one ha
    rw [o2 ha] at h2
    have hp := h2.2.1 p (by simp)
    refine ⟨p, ?_, by simpa using hp, h2.2.2 0 p v rfl rfl⟩
    cases p <;> first | exact h1 | simp [PV.one] at hp

theorem args_PT {H : Type} {enc : TypeId × Value → H} {sp : Nat → Bool} {held : Bool} (hl : laidOutB P = true) (hm : mapsRowed P = true) {N base : Nat} : ∀ {ts : List TypeId} {vs : List Value} {ds : List (DataW H)} {ps : List MemPlace},
    (∀ t ∈ ts, t < P.types.size ∧ okP P N t = true) → (∀ (j : Nat) t v, ts[j]? = some t → vs[j]? = some v → Value.okWide P W .any base t v) → DataW.TrodAll enc P W 0 sp held ts vs ds ps →
    ∃ pl, PA P N ts pl ∧ vs.length = pl.length ∧ ∀ (j : Nat) (p : PV) (v : Value), pl[j]? = some p → vs[j]? = some v → RO noA W p v
  | [], vs, ds, ps, _, _, h => by
    obtain ⟨rfl, _, _⟩ := trodAll_nil h
    exact ⟨[], ⟨rfl, by simp⟩, rfl, by simp⟩
  | t :: ts, vs, ds, ps, ht, hok, h => by
    obtain ⟨v, vs', d, ds', p, q, rfl, rfl, rfl, h1, h2⟩ := trodAll_cons h
    obtain ⟨x, x1, x2, x3⟩ := arg_PT hl hm (ht t (by simp)).1 (ht t (by simp)).2 (hok 0 t v rfl rfl) h1
    obtain ⟨pl, y1, y2, y3⟩ := args_PT hl hm (fun u hu => ht u (by simp [hu])) (fun j u z hj hz => hok (j + 1) u z (by simpa using hj) (by simpa using hz)) h2
    refine ⟨x :: pl, ⟨by simp [y1.1], fun j u z hj hz => ?_⟩, by simp [y2], fun j z u hj hu => ?_⟩
    · cases j with
      | zero => simp at hj hz; subst hj; subst hz; exact ⟨x1, x2⟩
      | succ j => exact y1.2 j u z (by simpa using hj) (by simpa using hz)
    · cases j with
      | zero => simp at hj hu; subst hj; subst hu; exact x3
      | succ j => exact y3 j z u (by simpa using hj) (by simpa using hu)

def E0 : Env := ⟨fun _ => 0, fun _ => undef, noA⟩
theorem rel_start {pl : List PV} {vs : List Value} (hl : vs.length = pl.length) (h : ∀ (j : Nat) (p : PV) (v : Value), pl[j]? = some p → vs[j]? = some v → RO noA W p v) :
    Rel P ⟨E0.om, obOf E0 []⟩ W noA ⟨vs.length, zslots (pl.map .pv) 0, []⟩ E0 vs.toArray W := by
  have hat : ∀ p v, St.at ⟨vs.length, zslots (pl.map .pv) 0, []⟩ p = some v → ∃ d q, p = .slot d ∧ pl[d]? = some q ∧ v = .pv q := by
    intro p v hp
    cases p with
    | slot d =>
      simp only [St.at, look_zslots0, List.getElem?_map, Option.map_eq_some_iff] at hp
      obtain ⟨q, hq, rfl⟩ := hp
      exact ⟨d, q, rfl, hq, rfl⟩
    | part d i =>
      simp only [St.at, look_zslots0, List.getElem?_map] at hp
      cases hq : pl[d]? with
      | none => rw [hq] at hp; simp at hp
      | some q => rw [hq] at hp; simp at hp
    | cell o i => simp [St.at, look] at hp
  refine { place := ?_, obj := ?_, size := ?_, i1 := ?_, i2 := ?_, i3 := ?_, om_lt := ?_, om0 := ?_, na := ?_, np := ?_, gr := Grow.refl _ _, flt := ?_, ob := ?_ }
  · intro p v hp
    obtain ⟨d, q, rfl, hq, rfl⟩ := hat p v hp
    have hlt : d < vs.length := by rw [hl]; exact (List.getElem?_eq_some_iff.1 hq).1
    refine ⟨vs[d], by simp [CV, hlt], ?_⟩
    exact .pv _ _ ((h d q vs[d] hq (List.getElem?_eq_getElem hlt)).mono (fun b _ hb => ⟨fun hc => hc.elim hb hb, rfl⟩))
  · intro o y ho; simp [look] at ho
  · simp
  · intro o o' y y' ho; simp [look] at ho
  · intro p q e xs e' ys b hp
    obtain ⟨d, q, rfl, hq, hv⟩ := hat _ _ hp
    cases hv
  · intro p e xs o y b hp
    obtain ⟨d, q, rfl, hq, hv⟩ := hat _ _ hp
    cases hv
  · intro b hb; exact hb.elim
  · intro b hb; exact hb.elim
  · intro p v q hp hon
    obtain ⟨d, r, rfl, hq, rfl⟩ := hat _ _ hp
    simp [SV.on] at hon
  · intro p v o hp hpt
    obtain ⟨d, r, rfl, hq, rfl⟩ := hat _ _ hp
    simp [SV.pts] at hpt
  · intro b hb; exact hb.elim
  · intro o b hb
    simp [obOf, look] at hb

/-- A law, called. -/
theorem law_calls {H : Type} {enc : TypeId × Value → H} {f : FuncId} {N base : Nat} {ts : List TypeId} {args : Array Value} {ds : List (DataW H)} {ps : List MemPlace} (hl : laidOutB P = true) (hm : mapsRowed P = true) (ht : ∀ t ∈ ts, t < P.types.size ∧ okP P N t = true)
    (hF : ∀ pl, PA P N ts pl → Fn P f [] (pl.map .pv) (fun rs H' => rs = [.pv (.bool true)] ∧ H' = [])) (hG : GOK P noA W)
    (hval : ∀ (j : Nat) t v, ts[j]? = some t → args[j]? = some v → Value.okWide P W .any base t v) (hA : DataW.TrodAll enc P W 0 (fun _ => true) true ts args.toList ds ps) :
    Calls P f args W fun e W' => e = .returned (.bool true) ∧ Below W.heap.size W W' := by
  obtain ⟨pl, h1, h2, h3⟩ := args_PT hl hm ht (fun j t v hj hv => hval j t v hj (by simpa using hv)) hA
  have hR := rel_start (P := P) h2 h3
  have := (hF pl h1).2 noA W E0 args.toList (by simp [h2]) (hG.mono (fun b _ hb => ⟨fun hc => hc.elim hb hb, rfl⟩) (Nat.le_refl _)) hR
  simp only [Array.toArray_toList] at this
  refine this.mono (fun e w' he => ?_)
  cases e with
  | returned v =>
    obtain ⟨rs, H', E', us, ⟨rfl, rfl⟩, k1, rfl, k2⟩ := he
    match us, k1 with
    | [u], _ =>
      obtain ⟨x, hx, hp⟩ := k2.place (.slot 0) (.pv (.bool true)) rfl
      simp [CV] at hx
      subst hx
      cases hp with | pv _ _ hr =>
        cases hr
        refine ⟨rfl, k2.gr.os, k2.gr.tape, k2.gr.output, k2.gr.size, fun k hk => k2.gr.block k hk (fun hb => hb)⟩
  | panicked c => exact he.elim
  | outgrown => exact he.elim

theorem below_all {H : Type} {enc : TypeId × Value → H} (hl : laidOutB P = true) {W' : World} (hb : Below W.heap.size W W') : ∀ {ts : List TypeId} {vs : List Value} {ds : List (DataW H)} {ps : List MemPlace}, (∀ t ∈ ts, P.readableRec t = true ∧ t < P.types.size) →
    DataW.TrodAll enc P W 0 (fun _ => true) true ts vs ds ps → DataW.TrodAll enc P W' 0 (fun b => decide (b < W.heap.size)) true ts vs ds ps
  | [], vs, ds, ps, _, h => by
    obtain ⟨rfl, rfl, rfl⟩ := trodAll_nil h
    exact trodAll_mk0
  | t :: ts, vs, ds, ps, ht, h => by
    obtain ⟨v, vs', d, ds', p, q, rfl, rfl, rfl, h1, h2⟩ := trodAll_cons h
    refine ⟨p, q, Below.trod hl (ht t (by simp)).1 (ht t (by simp)).2 h1 hb (fun x hx => ?_), below_all hl hb (fun u hu => ht u (by simp [hu])) h2, rfl⟩
    obtain ⟨m, hm⟩ := h1
    exact DataW.trod_lt m _ _ _ hm x hx

theorem law_post {H : Type} {enc : TypeId × Value → H} {fn : Func} {s : ChangeSpec} {args : Array Value} {ds gs : List (DataW H)} {before : List MemPlace} {tb : TypeId} {W' : World} (hl : laidOutB P = true) (hv : s.vars = [])
    (hs : ∀ ds : List (DataW H), ds.length = fn.params.size → s.fn H ds = { results := [.lit (.bool true)], args := ds }) (hrt : fn.resultTypes = #[tb]) (hub : P.underlying tb = some .bool)
    (ht : ∀ t ∈ fn.params.toList, P.readableRec t = true ∧ t < P.types.size) (hW : DataW.Whole enc P fn.params.toList s.vars false W args.toList ds gs before) (hb : Below W.heap.size W W') :
    s.post enc P fn false true false false W args (.bool true) W' := by
  have hW' := hW
  obtain ⟨p, q, hA, hV, rfl, _, _⟩ := hW
  rw [hv] at hV
  obtain ⟨rfl, rfl⟩ := trodVars_none hV
  have hlen : ds.length = fn.params.size := by
    have := (trodAll_length hA).2
    simpa using this
  have hs' := hs ds hlen
  refine ⟨ds, [], p ++ [], [], p, [], hW', ?_, ?_, ?_, hb.frame _, fun h => by cases h⟩
  · rw [List.append_nil, hs', hrt]
    exact trodAll_mk1 (shut_bool hub _)
  · rw [List.append_nil, hs']
    exact below_all hl hb ht hA
  · rw [List.append_nil, hs', hv]
    rfl
end
end Go.Ck

set_option linter.unusedVariables false
namespace Go.Ck
open Go.RowKit Go.ChangeShapes Go.WideShapes Go.ChangeAt
theorem gok_none {P : Program} {W : World} (h : gtabs P = []) : GOK P noA W := fun g l hg => by rw [h] at hg; cases hg
def tabD {H : Type} : DataW H := .agg (debruijn.map fun (n : Nat) => .lit (.int .u8 (n : Int)))
theorem gok_table {P : Program} {W : World} {g t e : Nat} {laid : List (String × DataW Unit)} (hl : laid = [("math/bits.deBruijn64tab", tabD)]) (hgt : gtabs P = [(g, debruijn)]) (hg : P.globalNamed "math/bits.deBruijn64tab" = some g) (ht : (P.globals[g]?).map (·.type) = some t)
    (hu : P.underlying t = some (.array 64 e)) (he : P.underlying e = some (.int .u8)) (hc : P.cellsOf e = 1) (h : laidMetH P laid W) : GOK P noA W := by
  subst hl
  rw [MakeChecks.laidMetH_plain _ _ _ rfl] at h
  obtain ⟨ps, ⟨g0, t0, cs0, f0, p0, q0, hg0, ht0, hv0, hd0, _, _⟩, _, _⟩ := h
  obtain rfl := Option.some.inj (hg.symm.trans hg0)
  obtain rfl := Option.some.inj (ht.symm.trans ht0)
  obtain ⟨xs, m, _, hx, hlen, hn, hel⟩ := DataW.trod_array hu hd0
  rw [hc] at hel
  simp only [Prod.mk.injEq] at hx
  have hx1 : debruijn.map (fun (n : Nat) => (DataW.lit (.int .u8 (n : Int)) : DataW Unit)) = xs.map (·.1) := by
    have := hx.1
    unfold tabD at this
    injection this
  intro g' l hgl
  rw [hgt] at hgl
  simp only [List.mem_cons, List.not_mem_nil, or_false, Prod.mk.injEq] at hgl
  obtain ⟨rfl, rfl⟩ := hgl
  have hcell := World.var?_cell hg hv0
  refine ⟨fun hb => hb, ?_, fun i n hi => ?_⟩
  · simp only [World.var?, hg, Option.bind_some] at hv0
    split at hv0
    · rename_i hb
      exact (Array.getElem?_eq_some_iff.1 hb).1
    · cases hv0
  · have hi64 : i < 64 := (List.getElem?_eq_some_iff.1 hi).1
    have h1 := hel i hi64
    have hxi : i < xs.length := by omega
    rw [List.getElem?_eq_getElem hxi] at h1
    obtain ⟨z, e1, e2, _⟩ := DataW.trod_int he h1
    have h2 : (debruijn.map (fun (n : Nat) => (DataW.lit (.int .u8 (n : Int)) : DataW Unit)))[i]? = (xs.map (·.1))[i]? := by rw [hx1]
    rw [List.getElem?_map, hi, List.getElem?_map, List.getElem?_eq_getElem hxi, e2] at h2
    simp at h2
    subst h2
    rw [hcell i]
    rw [Nat.mul_one] at e1
    have h3 : cs0.toList[i]? = some (.int .u8 (n : Int)) := by
      have h4 : ((cs0.toList.drop i).take 1)[0]? = some (.int .u8 (n : Int)) := by rw [e1]; rfl
      rw [List.getElem?_take, if_pos (by omega), List.getElem?_drop] at h4
      simpa using h4
    simpa using h3

theorem law_lifted {C : Checked} {os : Os} {f : FuncId} {fn : Func} {s : ChangeSpec} {H : Type} {enc : TypeId × Value → H} {laid : List (String × DataW Unit)} {N : Nat} {tb : TypeId} (own : ownKnob C.prog.godebug = none) (started : os.Started) (noInit : C.prog.inits.idxOf? f = none) (hfn : C.prog.funcs[f]? = some fn)
    (witness : ∃ (w : World) (tape : Tape) (i : Input), w.os = os ∧ (w.forCall tape i).Shaped C.prog ∧ i.vars = [] ∧ Input.okWide C.prog (w.forCall tape i) .any w.heap.size f i ∧
      ((s.pre enc C.prog fn [] false (w.forCall tape i).memory i.args ∧ laidMetH C.prog laid (w.forCall tape i).memory) ∧ sizedMet enc C.prog fn (OpenSpec.ofChange s) false (w.forCall tape i).memory i.args) ∧ ({} : Assume).holds C.prog (lone (Frame.enter C.prog f i.args .normal) [] (w.forCall tape i)))
    (hl : laidOutB C.prog = true) (hm : mapsRowed C.prog = true) (ht : fn.params.toList.all (fun t => decide (t < C.prog.types.size) && okP C.prog N t && C.prog.readableRec t) = true) (hv : s.vars = [])
    (hs : ∀ ds : List (DataW H), ds.length = fn.params.size → s.fn H ds = { results := [.lit (.bool true)], args := ds }) (hrt : fn.resultTypes = #[tb]) (hub : C.prog.underlying tb = some .bool)
    (hF : ∀ pl, PA C.prog N fn.params.toList pl → Fn C.prog f [] (pl.map .pv) (fun rs H' => rs = [.pv (.bool true)] ∧ H' = [])) (hG : ∀ w, laidMetH C.prog laid w → GOK C.prog noA w) :
    ReturnsInHanded {} C os f .any (fun w args => (s.pre enc C.prog fn [] false w args ∧ laidMetH C.prog laid w) ∧ sizedMet enc C.prog fn (OpenSpec.ofChange s) false w args) (s.post enc C.prog fn false true false false) := by
  refine returnsInHanded_of_change_and (C := C) (X := fun w _ => laidMetH C.prog laid w) (fun _ _ _ hh h => h.of_heap hh) own started noInit hfn witness ?_
  intro W base args ds gs before hval hW _ _ hL _
  have ht' : ∀ t ∈ fn.params.toList, t < C.prog.types.size ∧ okP C.prog N t = true ∧ C.prog.readableRec t = true := fun t h => by
    have := List.all_eq_true.1 ht t h
    simp only [Bool.and_eq_true, decide_eq_true_eq] at this
    exact ⟨this.1.1, this.1.2, this.2⟩
  have hW' := hW
  obtain ⟨p, q, hA, hV, _, _, _⟩ := hW
  refine (law_calls (enc := enc) hl hm (fun t h => ⟨(ht' t h).1, (ht' t h).2.1⟩) hF (hG W hL) (fun j t v hj hv => hval j t v (by simpa using hj) hv) hA).mono fun e W' ⟨he, hb⟩ => ⟨_, he, ?_⟩
  exact law_post hl hv hs hrt hub (fun t h => ⟨(ht' t h).2.2, (ht' t h).1⟩) hW' hb
end Go.Ck

set_option linter.unusedVariables false
namespace Go.Ck
open Go.RowKit
attribute [go_sem] arrFs_get isIntO isBoolO TK.isInt TK.isSl
section
variable {P : Program} {R : Option Nat} {Φ : Exit → Cx → St → Prop} {k : List It} {C : Cx} {s : St}
theorem ev_agg {B : Bs} {E : Env} {a : Act} {w : World} (hE : Rel P B.O B.w B.F s E a.tmps w) {x : Operand} {cs : List PV} (h : ev s x = some (.pv (.agg cs))) : ∃ vs : Array Value, a.eval x = .agg vs ∧ ROs (fun b => E.om b ∨ B.F b) w cs vs.toList := by
  have := ev_rs hE h
  generalize a.eval x = z at this
  cases this with | pv _ _ h =>
    cases h with | agg cs vs hl h1 hr => exact ⟨vs, rfl, by simpa using hl, h1, fun i c v hc hv => hr i c v hc (by simpa using hv)⟩
theorem AW.indexArr {all : Array Oper} {o : Oper} {r : List Oper} {d t : Nat} {x i : Operand} {cs : List PV} {n m e ez : Nat} {ea : Bool} {kk : IntKind} {q : PV} (hx : ev s x = some (.pv (.agg cs))) (hi : ev s i = some (.pv (.int kk (n : Int)))) (hT : tk P t = .arr m e ez ea) (hn : n < m) (hz : tsh P e = some (ez, ea)) (hq : subP (.agg cs) (n * ez) (some (ez, ea)) = some q)
    (hk : AW P R Φ .normal (.ops all r :: k) C (put d (.pv q) s)) (hg : o.guard = none := by rfl) (hd : o.dst = some d := by rfl) (ho : o.op = .index t x i := by rfl) : AW P R Φ .normal (.ops all (o :: r) :: k) C s := by
  refine AW.opSV hg hd (fun c hc => by rw [ho] at hc; cases hc) (.pv _ _) (fun B E a w _ hE => ?_) hk
  obtain ⟨vs, e1, hv⟩ := ev_agg hE hx
  have e2 := ev_int hE hi
  obtain ⟨hu, hce⟩ := tk_arr hT
  obtain ⟨z, ag, us, hTz, h1, hus, hul, hr⟩ := subP_sound hq hv
  cases hTz
  obtain ⟨dd, inf, hud, hinf, hsz, hag⟩ := tsh_parts (w := w) hz
  have hsize : (sizeOf e).run P w = .ok ez w := by rw [run_sizeOf w hinf]; simp [Program.cellsOf, hinf, hsz]
  refine ⟨_, ?_, .pv _ _ hr⟩
  have h0 : (0 : Int) ≤ (n : Int) ∧ (n : Int) < (m : Int) := by omega
  have hpart : (part e vs (n * ez)).run P w = .ok (if ea then .agg us.toArray else us.headD undef) w := by
    unfold part
    cases ea with
    | true =>
      simp only [Sem.run_bind, hag, Result.andThen_ok, if_true, hsize, Sem.run_pure]
      congr 2
      rw [hus]
      apply Array.ext'
      rw [Array.toList_extract, List.extract_eq_take_drop, Nat.add_sub_cancel_left]
    | false =>
      have hz1 := h1 rfl
      subst hz1
      obtain ⟨v, rfl⟩ : ∃ v, us = [v] := by
        match us, hul with
        | [v], _ => exact ⟨v, rfl⟩
      have hv1 : vs[n * 1]? = some v := by
        have h4 : ((vs.toList.drop (n * 1)).take 1)[0]? = some v := by rw [← hus]; rfl
        rw [List.getElem?_take, if_pos (by omega), List.getElem?_drop] at h4
        simpa using h4
      simp only [Sem.run_bind, hag, Result.andThen_ok, hv1]
      rfl
  simp [execOp, ho, e1, e2, Instr.index, asIntOf, Result.andThen, run_underlying hu, hn, hsize, hpart]
end
end Go.Ck

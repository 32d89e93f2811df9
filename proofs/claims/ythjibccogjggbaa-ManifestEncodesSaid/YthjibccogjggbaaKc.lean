/- What is proved here: parts of the proofs of this seat's statements (a verified evaluator for calls over pure values, its laws, and contracts of functions). No condition. -/
import Derived.Test.YthjibccogjggbaaKb
import Derived.Deep.AppendSrc
import Derived.Deep.Upon
set_option linter.all false
set_option linter.unusedVariables false
namespace Go.Ck
open Go.RowKit
theorem RS.env {P : Program} {A : Nat → Prop} {E E' : Env} {w : World} {v : SV} {y : Value} (ho : E'.obj = E.obj) (hh : E'.hdr = E.hdr) (h : RS P A E w v y) : RS P A E' w v y := by
  have := RS.world (A' := A) (w' := w) (N := E'.om) (fun b _ hn => ⟨hn, rfl⟩) h
  induction h with
  | pv q y h => exact .pv q y h
  | nils => exact .nils
  | al q => rw [← hh]; exact .al q
  | vw q e off n y h => exact .vw q e off n y (by rw [hh]; exact h)
  | ptr o off => rw [← ho]; exact .ptr o off
  | ea q e i j b h => exact .ea q e i j b (by rw [hh]; exact h)
  | ra c j vs ad hs h hm => exact .ra c j vs ad hs h hm
  | fn f caps vs hl h1 h ih => exact .fn f caps vs hl h1 (fun i c v hc hv => ih i c v hc hv (RS.world (A' := A) (w' := w) (N := E'.om) (fun b _ hn => ⟨hn, rfl⟩) (h i c v hc hv)))
  | agg cs vs hl h1 h ih => exact .agg cs vs hl h1 (fun i c v hc hv => ih i c v hc hv (RS.world (A' := A) (w' := w) (N := E'.om) (fun b _ hn => ⟨hn, rfl⟩) (h i c v hc hv)))
  | mp o => rw [← ho]; exact .mp o
  | yl l => exact .yl l
  | os o off n cap hc => rw [← ho]; exact .os o off n cap hc
  | lit xs g cur e fr h1 h2 h3 => exact .lit xs g cur e fr h1 h2 h3

theorem RS.grow {P : Program} {A A' : Nat → Prop} {E : Env} {w w' : World} {v : SV} {y : Value} (hg : ∀ b, b < w.heap.size → ¬ A b → ¬ A' b ∧ w'.heap[b]? = w.heap[b]?) (h : RS P A E w v y) : RS P A' E w' v y :=
  RS.env (E := E.addOm fun _ => False) rfl rfl (h.world hg)

theorem look_setObj (o : Nat) (x : HO) : ∀ (l : List (Nat × HO)) (o' : Nat), look o' (setObj o x l) = if o' = o then (look o l).map fun _ => x else look o' l
  | [], o' => by simp [setObj, look]
  | (k, v) :: r, o' => by
    simp only [setObj]
    by_cases hk : k = o
    · subst hk
      simp only [if_true, look]
      by_cases h1 : k = o'
      · subst h1; simp
      · simp [h1, Ne.symm h1]
    · simp only [hk, if_false, look]
      by_cases h1 : k = o'
      · subst h1; simp [hk]
      · rw [if_neg h1, look_setObj o x r o']
        simp [h1]

section
variable {P : Program} {O0 : Base} {F : Nat → Prop} {w0 w : World} {s : St} {E : Env} {tmps : Array Value}
theorem at_setCell {o i : Nat} {e : TypeId} {cs : List SV} (hl : look o s.hp = some (.cells e cs)) (v : SV) (p : Place) : (setAt (.cell o i) v s).at p = match p with
    | .cell o' j => if o' = o then (cs.set i v)[j]? else s.at p
    | p => s.at p := by
  simp only [setAt, hl]
  cases p with
  | slot d => rfl
  | part d j => rfl
  | cell o' j =>
    by_cases h1 : o' = o
    · subst h1; simp [St.at, look_setObj, hl]
    · simp only [St.at, look_setObj, h1, if_false]

theorem setCell_heap (w : World) (b i : Nat) (y : Value) (k : Nat) : (w.setCell ⟨b, i, none⟩ y).heap[k]? = if k = b then (w.heap[b]?).map (fun | .cells c e f => .cells (c.setIfInBounds i y) e f | o => o) else w.heap[k]? := by
  simp only [World.setCell, Array.getElem?_modify]
  by_cases h : k = b
  · subst h
    simp
    cases w.heap[k]? with
    | none => rfl
    | some o => cases o <;> rfl
  · rw [if_neg (fun h' => h h'.symm), if_neg h]

/-- A cell of an object is written. -/
theorem Rel.writeCell (h : Rel P O0 w0 F s E tmps w) {o i : Nat} {e : TypeId} {cs : List SV} {v : SV} {y : Value} (hl : look o s.hp = some (.cells e cs)) (hi : i < cs.length) (hf : Free (.cell o i) s) (h1 : oneSV v = true)
    (hv : PVal P (fun b => E.om b ∨ F b) (E.setHdr (.cell o i) y) w (.cell o i) v y) (hon : ∀ q, v.on q = false) (hb : (∃ e' xs, v = .own e' xs) → ∀ b, y.ownBlock = some b → E.om b ∧ Unused s E b) (hpt : ∀ o', v.pts o' = true → ∃ z, look o' s.hp = some z) :
    Rel P O0 w0 F (setAt (.cell o i) v s) (E.setHdr (.cell o i) y) tmps (w.setCell ⟨E.obj o, i, none⟩ y) := by
  obtain ⟨vs, hheap, hsz, hone, hom, hcl, hcell⟩ := h.objCells hl
  have hA : ∀ b, b < w.heap.size → ¬ (E.om b ∨ F b) → ¬ (E.om b ∨ F b) ∧ (w.setCell ⟨E.obj o, i, none⟩ y).heap[b]? = w.heap[b]? := by
    intro b hb' hn
    refine ⟨hn, ?_⟩
    rw [setCell_heap, if_neg (by rintro rfl; exact hn (.inl hom))]
  have hblk : ∀ b, b ≠ E.obj o → (w.setCell ⟨E.obj o, i, none⟩ y).heap[b]? = w.heap[b]? := by
    intro b hb'; rw [setCell_heap, if_neg hb']
  have hobj : (w.setCell ⟨E.obj o, i, none⟩ y).heap[E.obj o]? = some (.cells (vs.setIfInBounds i y) e (0, 0)) := by
    rw [setCell_heap, if_pos rfl, hheap]; rfl
  have hat : ∀ p u, (setAt (.cell o i) v s).at p = some u → (p = .cell o i ∧ u = v) ∨ (p ≠ .cell o i ∧ s.at p = some u) := by
    intro p u hp
    rw [at_setCell hl] at hp
    cases p with
    | slot d => exact .inr ⟨by simp, hp⟩
    | part d j => exact .inr ⟨by simp, hp⟩
    | cell o' j =>
      simp only at hp
      split at hp
      · rename_i ho; subst ho
        rw [List.getElem?_set] at hp
        split at hp
        · rename_i hj; subst hj
          simp [hi] at hp
          exact .inl ⟨rfl, hp.symm⟩
        · rename_i hj
          exact .inr ⟨by simpa using fun h => hj h.symm, by simp [St.at, hl, hp]⟩
      · rename_i ho
        exact .inr ⟨by simp [ho], hp⟩
  have hkeep : ∀ p u, p ≠ .cell o i → s.at p = some u → (setAt (.cell o i) v s).at p = some u := by
    intro p u hne hp
    rw [at_setCell hl]
    cases p with
    | slot d => exact hp
    | part d j => exact hp
    | cell o' j =>
      simp only
      split
      · rename_i ho; subst ho
        rw [List.getElem?_set, if_neg (by rintro rfl; exact hne rfl)]
        simpa [St.at, hl] using hp
      · exact hp
  have hhp : ∀ o' z, look o' (setAt (.cell o i) v s).hp = some z → (o' = o ∧ z = .cells e (cs.set i v)) ∨ (o' ≠ o ∧ look o' s.hp = some z) := by
    intro o' z hz
    simp only [setAt, hl, look_setObj] at hz
    split at hz
    · rename_i ho; subst ho; simp [hl] at hz; exact .inl ⟨rfl, hz.symm⟩
    · rename_i ho; exact .inr ⟨ho, hz⟩
  have hhp' : ∀ o' z, look o' s.hp = some z → ∃ z', look o' (setAt (.cell o i) v s).hp = some z' := by
    intro o' z hz
    simp only [setAt, hl, look_setObj]
    split
    · rename_i ho; subst ho; simp [hl]
    · exact ⟨z, hz⟩
  have hlk : ∀ o' z, look o' (setAt (.cell o i) v s).hp = some z → ∃ z', look o' s.hp = some z' := by
    intro o' z hz
    rcases hhp o' z hz with ⟨rfl, _⟩ | ⟨_, h2⟩
    · exact ⟨_, hl⟩
    · exact ⟨_, h2⟩
  have hPV : ∀ p u x, PVal P (fun b => E.om b ∨ F b) (E.setHdr (.cell o i) y) w p u x → (∀ e' xs, u = .own e' xs → ∀ b, ((E.setHdr (.cell o i) y).hdr p).ownBlock = some b → b ≠ E.obj o) → PVal P (fun b => E.om b ∨ F b) (E.setHdr (.cell o i) y) (w.setCell ⟨E.obj o, i, none⟩ y) p u x := by
    intro p u x hp hne
    cases u <;> simp only [PVal] at hp ⊢
    case own e' xs =>
      obtain ⟨h2, h3, h4⟩ := hp
      exact ⟨h2, h3.kept hA (fun b hb' => hblk b (hne e' xs rfl b hb')), h4⟩
    case tup us => exact hp
    all_goals exact hp.grow hA
  refine { place := ?_, obj := ?_, size := by simp [setAt, hl, h.size], i1 := ?_, i2 := ?_, i3 := ?_, om_lt := ?_, om0 := h.om0, na := ?_, np := ?_, gr := ?_, flt := h.flt, ob := ?_ }
  · intro p u hp
    rcases hat p u hp with ⟨rfl, rfl⟩ | ⟨hne, h3⟩
    · refine ⟨y, ?_, hPV _ _ _ hv ?_⟩
      · simp only [CV]
        show (w.setCell ⟨E.obj o, i, none⟩ y).cell? ⟨E.obj o, i, none⟩ = some y
        simp [World.cell?, hobj, hsz, hi]
      · intro e' xs he b hb'
        rw [Env.setHdr_same] at hb'
        exact fun hbo => (hb ⟨e', xs, he⟩ b hb').2.1 o _ hl hbo.symm
    · obtain ⟨x, hx, hpv⟩ := h.place p u h3
      refine ⟨x, ?_, hPV _ _ _ (hpv.setHdr (hf p u h3) (.inl hne)) ?_⟩
      · cases p with
        | slot d => exact hx
        | part d j => exact hx
        | cell o' j =>
          simp only [CV] at hx ⊢
          show (w.setCell ⟨E.obj o, i, none⟩ y).cell? ⟨E.obj o', j, none⟩ = some x
          by_cases ho : o' = o
          · subst ho
            rw [hcl] at hx
            have hj : j ≠ i := by rintro rfl; exact hne rfl
            simp [World.cell?, hobj, Array.getElem?_setIfInBounds_ne (Ne.symm hj), hx]
          · have : ∃ z, look o' s.hp = some z := by
              simp only [St.at] at h3
              cases hl' : look o' s.hp with
              | none => simp [hl'] at h3
              | some z => exact ⟨z, rfl⟩
            obtain ⟨z, hz⟩ := this
            have hne' : E.obj o' ≠ E.obj o := fun he => ho (h.i1 o' o z _ hz hl he)
            have hb' := hblk (E.obj o') hne'
            exact (World.cell?_of_block (w := w) (a := ⟨E.obj o', j, none⟩) hb').trans hx
      · intro e' xs he b hb'
        rw [Env.setHdr_ne _ _ hne] at hb'
        subst he
        exact fun hbo => h.i3 p e' xs o _ b h3 hl hb' hbo.symm
  · intro o' z hz
    rcases hhp o' z hz with ⟨rfl, rfl⟩ | ⟨hne, hz'⟩
    · refine ⟨hom, vs.setIfInBounds i y, hobj, by simp [hsz], fun c hc => ?_⟩
      rcases List.mem_or_eq_of_mem_set hc with hc | rfl
      · exact hone c hc
      · exact h1
    · obtain ⟨h2, h3⟩ := h.obj o' z hz'
      refine ⟨h2, ?_⟩
      have hne' : E.obj o' ≠ E.obj o := fun he => hne (h.i1 o' o z _ hz' hl he)
      have hb' := hblk (E.obj o') hne'
      cases z with
      | cells e' cs' =>
        obtain ⟨us, h4, h5⟩ := h3
        exact ⟨us, hb'.trans h4, h5⟩
      | mp es =>
        obtain ⟨ms, c, h4, h5, h6⟩ := h3
        exact ⟨ms, c, hb'.trans h4, h5, fun j kv m hk hm => ⟨(h6 j kv m hk hm).1.mono hA, (h6 j kv m hk hm).2.mono hA⟩⟩
  · intro a b x x' hx hx' he
    obtain ⟨z, hz⟩ := hlk a x hx
    obtain ⟨z', hz'⟩ := hlk b x' hx'
    exact h.i1 a b z z' hz hz' he
  · intro p q e' xs e'' ys b hp hq hbp hbq
    rcases hat p _ hp with ⟨rfl, he⟩ | ⟨hpn, hp'⟩
    · rcases hat q _ hq with ⟨rfl, _⟩ | ⟨hqn, hq'⟩
      · rfl
      · rw [Env.setHdr_same] at hbp
        rw [Env.setHdr_ne _ _ hqn] at hbq
        exact absurd hbq ((hb ⟨_, _, he.symm⟩ b hbp).2.2 q _ _ hq')
    · rw [Env.setHdr_ne _ _ hpn] at hbp
      rcases hat q _ hq with ⟨rfl, he⟩ | ⟨hqn, hq'⟩
      · rw [Env.setHdr_same] at hbq
        exact absurd hbp ((hb ⟨_, _, he.symm⟩ b hbq).2.2 p _ _ hp')
      · rw [Env.setHdr_ne _ _ hqn] at hbq
        exact h.i2 p q _ _ _ _ b hp' hq' hbp hbq
  · intro p e' xs o' z b hp hz hbp
    obtain ⟨z', hz'⟩ := hlk o' z hz
    rcases hat p _ hp with ⟨rfl, he⟩ | ⟨hpn, hp'⟩
    · rw [Env.setHdr_same] at hbp
      exact (hb ⟨_, _, he.symm⟩ b hbp).2.1 o' z' hz'
    · rw [Env.setHdr_ne _ _ hpn] at hbp
      exact h.i3 p _ _ o' z' b hp' hz' hbp
  · intro b hb'
    have := h.om_lt b hb'
    simpa using this
  · intro p u q hp hq
    rcases hat p u hp with ⟨rfl, rfl⟩ | ⟨hne, hp'⟩
    · rw [hon q] at hq; cases hq
    · obtain ⟨h4, ⟨e', xs', h5⟩, h6⟩ := h.na p u q hp' hq
      have hqn : q ≠ .cell o i := by
        rintro rfl
        rw [hf p u hp'] at hq
        cases hq
      exact ⟨h4, ⟨e', xs', hkeep q _ hqn h5⟩, h6⟩
  · intro p u o' hp ho'
    rcases hat p u hp with ⟨rfl, rfl⟩ | ⟨hne, hp'⟩
    · obtain ⟨z, hz⟩ := hpt o' ho'
      exact hhp' o' z hz
    · obtain ⟨z, hz⟩ := h.np p u o' hp' ho'
      exact hhp' o' z hz
  · refine h.gr.trans (M1 := fun b => b = E.obj o) ⟨rfl, rfl, rfl, by simp, fun b _ hb' => hblk b hb'⟩ (fun b hb' => ?_)
    subst hb'
    exact h.om0 _ hom
  · intro o' k hok
    obtain ⟨h1, y, hy⟩ := h.ob o' k hok
    exact ⟨h1, hhp' o' y hy⟩
end
end Go.Ck

set_option linter.unusedVariables false
namespace Go.Ck
open Go.RowKit
def SV.isTup : SV → Bool
  | .tup _ => true
  | _ => false

theorem setAt_inv {p : Place} {u v : SV} {s : St} (hp : s.at p = some u) (hu : u.isTup = false) (hv : v.isTup = false) {r : Place} {y : SV} (hr : (setAt p v s).at r = some y) :
    (r = p ∧ y = v) ∨ (r ≠ p ∧ s.at r = some y) ∨ ∃ d i vs, p = .part d i ∧ r = .slot d ∧ s.at r = some (.tup vs) ∧ y = .tup (vs.set i v) := by
  cases p with
  | slot d =>
    simp only [setAt, at_setSlot] at hr
    cases r with
    | slot d' =>
      simp only at hr
      split at hr
      · rename_i e; subst e; simp at hr; exact .inl ⟨rfl, hr.symm⟩
      · rename_i e; exact .inr (.inl ⟨by simpa using fun h => e h.symm, hr⟩)
    | part d' i =>
      simp only at hr
      split at hr
      · cases v <;> simp [SV.isTup] at hv hr
      · exact .inr (.inl ⟨by simp, hr⟩)
    | cell o i => exact .inr (.inl ⟨by simp, hr⟩)
  | part d i =>
    simp only [St.at] at hp
    cases hl : look d s.sl with
    | none => simp [hl] at hp
    | some x =>
      cases x <;> simp [hl] at hp
      rename_i vs
      simp only [setAt, hl, at_setSlot] at hr
      cases r with
      | slot d' =>
        simp only at hr
        split at hr
        · rename_i e; subst e; simp at hr; exact .inr (.inr ⟨d, i, vs, rfl, rfl, hl, hr.symm⟩)
        · rename_i e; exact .inr (.inl ⟨by simp, hr⟩)
      | part d' j =>
        simp only at hr
        split at hr
        · rename_i e; subst e
          rw [List.getElem?_set] at hr
          split at hr
          · rename_i e; subst e
            split at hr
            · simp at hr; exact .inl ⟨rfl, hr.symm⟩
            · cases hr
          · rename_i e; exact .inr (.inl ⟨by simpa using fun h => e h.symm, by simp [St.at, hl, hr]⟩)
        · rename_i e; exact .inr (.inl ⟨by simpa using fun h => absurd h.symm e, hr⟩)
      | cell o j => exact .inr (.inl ⟨by simp, hr⟩)
  | cell o i =>
    simp only [St.at] at hp
    cases hl : look o s.hp with
    | none => simp [hl] at hp
    | some x =>
      cases x <;> simp [hl] at hp
      rename_i e cs
      rw [at_setCell hl] at hr
      cases r with
      | slot d => exact .inr (.inl ⟨by simp, hr⟩)
      | part d j => exact .inr (.inl ⟨by simp, hr⟩)
      | cell o' j =>
        simp only at hr
        split at hr
        · rename_i e'; subst e'
          rw [List.getElem?_set] at hr
          split at hr
          · rename_i e'; subst e'
            split at hr
            · simp at hr; exact .inl ⟨rfl, hr.symm⟩
            · cases hr
          · rename_i e'; exact .inr (.inl ⟨by simpa using fun h => e' h.symm, by simp [St.at, hl, hr]⟩)
        · rename_i e'; exact .inr (.inl ⟨by simp [e'], hr⟩)

theorem setAt_same {p : Place} {u v : SV} {s : St} (hp : s.at p = some u) : (setAt p v s).at p = some v := by
  cases p with
  | slot d => simp [setAt, at_setSlot]
  | part d i =>
    simp only [St.at] at hp
    cases hl : look d s.sl with
    | none => simp [hl] at hp
    | some x =>
      cases x <;> simp [hl] at hp
      rename_i vs
      have := (List.getElem?_eq_some_iff.1 hp).1
      simp [setAt, hl, at_setSlot, this]
  | cell o i =>
    simp only [St.at] at hp
    cases hl : look o s.hp with
    | none => simp [hl] at hp
    | some x =>
      cases x <;> simp [hl] at hp
      rename_i e cs
      have := (List.getElem?_eq_some_iff.1 hp).1
      rw [at_setCell hl]
      simp [this]

theorem setAt_keep {p : Place} {u v : SV} {s : St} (hp : s.at p = some u) (hu : u.isTup = false) {r : Place} {y : SV} (hr : s.at r = some y) (hne : r ≠ p) (hy : y.isTup = false) : (setAt p v s).at r = some y := by
  cases p with
  | slot d =>
    simp only [setAt, at_setSlot]
    cases r with
    | slot d' => simp only; rw [if_neg (by rintro rfl; exact hne rfl)]; exact hr
    | part d' i =>
      simp only
      split
      · rename_i e; subst e
        simp only [St.at] at hp hr
        rw [hp] at hr
        cases u <;> simp [SV.isTup] at hu hr
      · exact hr
    | cell o i => exact hr
  | part d i =>
    simp only [St.at] at hp
    cases hl : look d s.sl with
    | none => simp [hl] at hp
    | some x =>
      cases x <;> simp [hl] at hp
      rename_i vs
      simp only [setAt, hl, at_setSlot]
      cases r with
      | slot d' =>
        simp only
        split
        · rename_i e; subst e
          simp only [St.at] at hr
          rw [hl] at hr
          cases hr
          simp [SV.isTup] at hy
        · exact hr
      | part d' j =>
        simp only
        split
        · rename_i e; subst e
          rw [List.getElem?_set, if_neg (by rintro rfl; exact hne rfl)]
          simpa [St.at, hl] using hr
        · exact hr
      | cell o j => exact hr
  | cell o i =>
    simp only [St.at] at hp
    cases hl : look o s.hp with
    | none => simp [hl] at hp
    | some x =>
      cases x <;> simp [hl] at hp
      rename_i e cs
      rw [at_setCell hl]
      cases r with
      | slot d => exact hr
      | part d j => exact hr
      | cell o' j =>
        simp only
        split
        · rename_i e'; subst e'
          rw [List.getElem?_set, if_neg (by rintro rfl; exact hne rfl)]
          simpa [St.at, hl] using hr
        · exact hr

theorem setAt_n (p : Place) (v : SV) (s : St) : (setAt p v s).n = s.n := by
  cases p with
  | slot d => rfl
  | part d i => simp only [setAt]; split <;> rfl
  | cell o i => simp only [setAt]; split <;> rfl

/-- The objects behind a change at a place: the same ones, of the same make. -/
theorem setAt_hp (p : Place) (v : SV) (s : St) (o : Nat) (x : HO) (h : look o (setAt p v s).hp = some x) : look o s.hp = some x ∨ ∃ e cs i, p = .cell o i ∧ look o s.hp = some (.cells e cs) ∧ x = .cells e (cs.set i v) := by
  cases p with
  | slot d => exact .inl h
  | part d i => simp only [setAt] at h; split at h <;> exact .inl h
  | cell o' i =>
    simp only [setAt] at h
    split at h
    · rename_i e cs hl
      simp only [look_setObj] at h
      split at h
      · rename_i e'; subst e'; simp [hl] at h; exact .inr ⟨e, cs, i, rfl, hl, h.symm⟩
      · exact .inl h
    · exact .inl h
theorem setAt_hp' (p : Place) (v : SV) (s : St) (o : Nat) (x : HO) (h : look o s.hp = some x) : ∃ y, look o (setAt p v s).hp = some y := by
  cases p with
  | slot d => exact ⟨x, h⟩
  | part d i => simp only [setAt]; split <;> exact ⟨x, h⟩
  | cell o' i =>
    simp only [setAt]
    split
    · rename_i e cs hl
      simp only [look_setObj]
      split
      · rename_i e'; subst e'; simp [hl]
      · exact ⟨x, h⟩
    · exact ⟨x, h⟩

section
variable {P : Program} {O0 : Base} {F : Nat → Prop} {w0 w : World} {s : St} {E : Env} {tmps : Array Value}
/-- Another value for what lies at a place, memory and slots being as they are. -/
theorem Rel.recast (h : Rel P O0 w0 F s E tmps w) {p : Place} {u v : SV} {y x : Value} (hp : s.at p = some u) (hu : u.isTup = false) (hv : v.isTup = false) (hf : Free p s) (h1 : oneSV v = true) (hcv : CV E tmps w p y)
    (hx : (∀ e xs, v ≠ .own e xs) ∨ x = y) (hpv : PVal P (fun b => E.om b ∨ F b) (E.setHdr p x) w p v y) (hon : ∀ q, v.on q = true → (∃ d, p = .slot d) ∧ q ≠ p ∧ (∃ e xs, s.at q = some (.own e xs)) ∧ ∀ d i, q ≠ .part d i)
    (hb : (∃ e' xs, v = .own e' xs) → ∀ b, x.ownBlock = some b → E.om b ∧ (∀ o h, look o s.hp = some h → E.obj o ≠ b) ∧ ∀ q e xs, q ≠ p → s.at q = some (.own e xs) → (E.hdr q).ownBlock ≠ some b) (hpt : ∀ o', v.pts o' = true → ∃ z, look o' s.hp = some z) :
    Rel P O0 w0 F (setAt p v s) (E.setHdr p x) tmps w := by
  have hin : ∀ {r y}, (setAt p v s).at r = some y → (r = p ∧ y = v) ∨ (r ≠ p ∧ s.at r = some y) ∨ ∃ d i vs, p = .part d i ∧ r = .slot d ∧ s.at r = some (.tup vs) ∧ y = .tup (vs.set i v) := fun hr => setAt_inv hp hu hv hr
  have hlk : ∀ o z, look o (setAt p v s).hp = some z → ∃ z', look o s.hp = some z' := by
    intro o z hz
    rcases setAt_hp p v s o z hz with h2 | ⟨e, cs, i, _, h2, _⟩
    · exact ⟨z, h2⟩
    · exact ⟨_, h2⟩
  refine { place := ?_, obj := ?_, size := (setAt_n _ _ _).trans h.size, i1 := ?_, i2 := ?_, i3 := ?_, om_lt := h.om_lt, om0 := h.om0, na := ?_, np := ?_, gr := h.gr, flt := h.flt, ob := ?_ }
  · intro r z hr
    rcases hin hr with ⟨rfl, rfl⟩ | ⟨hne, h2⟩ | ⟨d, i, vs, rfl, rfl, h2, rfl⟩
    · refine ⟨y, ?_, hpv⟩
      cases r <;> exact hcv
    · obtain ⟨x', hx', hpv'⟩ := h.place r z h2
      refine ⟨x', ?_, hpv'.setHdr (hf r z h2) (.inl hne)⟩
      cases r <;> exact hx'
    · obtain ⟨x', hx', hpv'⟩ := h.place _ _ h2
      refine ⟨x', hx', ?_⟩
      simp only [PVal] at hpv' ⊢
      obtain ⟨us, h3, h4⟩ := hpv'
      exact ⟨us, h3, by simp [h4]⟩
  · intro o z hz
    rcases setAt_hp p v s o z hz with h2 | ⟨e, cs, i, rfl, h2, rfl⟩
    · obtain ⟨h3, h4⟩ := h.obj o z h2
      refine ⟨h3, ?_⟩
      cases z <;> exact h4
    · obtain ⟨h3, vs, h4, h5, h6⟩ := h.obj o _ h2
      refine ⟨h3, vs, h4, by simp [h5], fun c hc => ?_⟩
      rcases List.mem_or_eq_of_mem_set hc with hc | rfl
      · exact h6 c hc
      · exact h1
  · intro a b z z' hz hz' he
    obtain ⟨q, hq⟩ := hlk a z hz
    obtain ⟨q', hq'⟩ := hlk b z' hz'
    exact h.i1 a b q q' hq hq' he
  · have hown : ∀ r e' ys b, (setAt p v s).at r = some (.own e' ys) → ((E.setHdr p x).hdr r).ownBlock = some b → (r = p ∧ v = .own e' ys ∧ x.ownBlock = some b) ∨ (r ≠ p ∧ s.at r = some (.own e' ys) ∧ (E.hdr r).ownBlock = some b) := by
      intro r e' ys b hr hb'
      rcases hin hr with ⟨rfl, h2⟩ | ⟨hne, h2⟩ | ⟨_, _, _, _, _, _, h2⟩
      · rw [Env.setHdr_same] at hb'; exact .inl ⟨rfl, h2.symm, hb'⟩
      · rw [Env.setHdr_ne _ _ hne] at hb'; exact .inr ⟨hne, h2, hb'⟩
      · cases h2
    intro a c e' xs e'' ys b ha hc hba hbc
    rcases hown a e' xs b ha hba with ⟨rfl, he, hb1⟩ | ⟨hna, ha', hb1⟩
    · rcases hown c e'' ys b hc hbc with ⟨rfl, _, _⟩ | ⟨hnc, hc', hb2⟩
      · rfl
      · exact absurd hb2 ((hb ⟨_, _, he⟩ b hb1).2.2 c _ _ hnc hc')
    · rcases hown c e'' ys b hc hbc with ⟨rfl, he, hb2⟩ | ⟨hnc, hc', hb2⟩
      · exact absurd hb1 ((hb ⟨_, _, he⟩ b hb2).2.2 a _ _ hna ha')
      · exact h.i2 a c _ _ _ _ b ha' hc' hb1 hb2
  · intro r e' ys o z b hr hz hb'
    obtain ⟨z', hz'⟩ := hlk o z hz
    rcases hin hr with ⟨rfl, h2⟩ | ⟨hne, h2⟩ | ⟨_, _, _, _, _, _, h2⟩
    · rw [Env.setHdr_same] at hb'
      exact (hb ⟨_, _, h2.symm⟩ b hb').2.1 o z' hz'
    · rw [Env.setHdr_ne _ _ hne] at hb'
      exact h.i3 r _ _ o z' b h2 hz' hb'
    · cases h2
  · intro r z q hr hq
    rcases hin hr with ⟨rfl, rfl⟩ | ⟨hne, h2⟩ | ⟨_, _, _, _, _, _, rfl⟩
    · obtain ⟨h3, h4, ⟨e', xs', h5⟩, h6⟩ := hon q hq
      exact ⟨h3, ⟨e', xs', setAt_keep hp hu h5 h4 rfl⟩, h6⟩
    · obtain ⟨h3, ⟨e', xs', h5⟩, h6⟩ := h.na r z q h2 hq
      have hqn : q ≠ p := by rintro rfl; rw [hf r z h2] at hq; cases hq
      exact ⟨h3, ⟨e', xs', setAt_keep hp hu h5 hqn rfl⟩, h6⟩
    · simp [SV.on] at hq
  · intro r z o hr ho
    rcases hin hr with ⟨rfl, rfl⟩ | ⟨hne, h2⟩ | ⟨_, _, _, _, _, _, rfl⟩
    · obtain ⟨z, hz⟩ := hpt o ho
      exact setAt_hp' _ _ _ o z hz
    · obtain ⟨z', hz'⟩ := h.np r z o h2 ho
      exact setAt_hp' _ _ _ o z' hz'
    · simp [SV.pts] at ho
  · intro o k hok
    obtain ⟨h1, y, hy⟩ := h.ob o k hok
    exact ⟨h1, setAt_hp' _ _ _ o y hy⟩
end
end Go.Ck

set_option linter.unusedVariables false
namespace Go.Ck
open Go.RowKit
theorem Env.setHdr_self (E : Env) (p : Place) : E.setHdr p (E.hdr p) = E := by
  cases E with | mk a b c => ?_
  simp only [Env.setHdr, Env.mk.injEq, true_and, and_true]
  funext q
  split
  · rename_i h; rw [h]
  · rfl

/-- A value that may be put into a slot. -/
def Good (s : St) (v : SV) : Prop := v.easy = true ∧ (∀ q, v.on q = true → (∃ e xs, s.at q = some (.own e xs)) ∧ ∀ d i, q ≠ .part d i) ∧ ∀ o, v.pts o = true → ∃ h, look o s.hp = some h
theorem Good.pv (s : St) (p : PV) : Good s (.pv p) := ⟨rfl, by simp [SV.on], by simp [SV.pts]⟩
theorem Good.nils (s : St) : Good s .nils := ⟨rfl, by simp [SV.on], by simp [SV.pts]⟩

theorem clear_own (d : Nat) (s : St) {q : Place} {e : TypeId} {xs : List PV} (h : s.at q = some (.own e xs)) : (clear d s).at q = some (.own e xs) := by
  unfold clear; split
  · exact kill_own _ s h
  · exact h
theorem clear_own' (d : Nat) (s : St) {q : Place} {e : TypeId} {xs : List PV} (h : (clear d s).at q = some (.own e xs)) : s.at q = some (.own e xs) := by
  unfold clear at h; split at h
  · rcases at_kill _ s q _ h with ⟨h1, _⟩ | ⟨h1, _⟩
    · cases h1
    · exact h1
  · exact h

section
variable {P : Program} {O0 : Base} {F : Nat → Prop} {w0 w : World} {s : St} {E : Env} {tmps : Array Value}
theorem Rel.putGood (h : Rel P O0 w0 F s E tmps w) {v : SV} {x : Value} (d : Nat) (hg : Good s v) (hr : RS P (fun b => E.om b ∨ F b) E w v x) : Rel P O0 w0 F (put d v s) E (tmps.setIfInBounds d x) w := by
  unfold put
  split
  · rename_i hd
    obtain ⟨hc, hf⟩ := h.clear d
    have hd' : d < (Ck.clear d s).n := by rw [clear_n]; exact hd
    cases hon : v.on (.slot d) with
    | true => simp only [if_true]; exact hc.setDead x hd' hf
    | false =>
      simp only [Bool.false_eq_true, if_false]
      refine hc.easySlot hd' hf hg.1 (.inr hr) (fun q hq => ?_) (fun o ho => by rw [clear_hp]; exact hg.2.2 o ho)
      obtain ⟨⟨e, xs, h1⟩, h2⟩ := hg.2.1 q hq
      exact ⟨(fun he => by subst he; rw [hon] at hq; cases hq), ⟨e, xs, clear_own d s h1⟩, h2⟩
  · rename_i hd
    rw [Array.setIfInBounds_eq_of_size_le (by rw [← h.size]; omega)]
    exact h

theorem Unused.clear {E : Env} {b : Nat} (d : Nat) (h : Unused s E b) : Unused (Ck.clear d s) E b :=
  ⟨fun o y hl => h.1 o y (by rw [clear_hp] at hl; exact hl), fun p e xs hp => h.2 p e xs (clear_own' d s hp)⟩

theorem Rel.putOwn (h : Rel P O0 w0 F s E tmps w) {e : TypeId} {xs : List PV} {x : Value} (d : Nat) (ho : OwnL P (fun b => E.om b ∨ F b) w e x xs) (hb : ∀ b, x.ownBlock = some b → E.om b ∧ Unused s E b) :
    ∃ E', Rel P O0 w0 F (put d (.own e xs) s) E' (tmps.setIfInBounds d x) w := by
  unfold put
  split
  · rename_i hd
    obtain ⟨hc, hf⟩ := h.clear d
    have hd' : d < (Ck.clear d s).n := by rw [clear_n]; exact hd
    simp only [SV.on, Bool.false_eq_true, if_false]
    exact ⟨_, hc.setOwnSlot hd' hf ho (fun b h1 => ⟨(hb b h1).1, (hb b h1).2.clear d⟩)⟩
  · rename_i hd
    rw [Array.setIfInBounds_eq_of_size_le (by rw [← h.size]; omega)]
    exact ⟨E, h⟩

theorem kill_own' (q : Place) (s : St) {p : Place} {e : TypeId} {xs : List PV} (h : (kill q s).at p = some (.own e xs)) : s.at p = some (.own e xs) := by
  rcases at_kill q s p _ h with ⟨h1, _⟩ | ⟨h1, _⟩
  · cases h1
  · exact h1

/-- The own list at a place, taken out. -/
theorem Rel.take (h : Rel P O0 w0 F s E tmps w) {p : Place} {e : TypeId} {xs : List PV} (hp : s.at p = some (.own e xs)) :
    CV E tmps w p (E.hdr p) ∧ OwnL P (fun b => E.om b ∨ F b) w e (E.hdr p) xs ∧ (∀ b, (E.hdr p).ownBlock = some b → E.om b ∧ Unused (del p s) E b) ∧ Rel P O0 w0 F (del p s) E tmps w := by
  obtain ⟨x, hx, rfl, ho, hom⟩ := h.place p _ hp
  have hk := h.kill p
  have hpk : (Ck.kill p s).at p = some (.own e xs) := kill_own p s hp
  refine ⟨hx, ho, fun b hb => ⟨hom b hb, ⟨fun o y hl he => ?_, fun q e' ys hq hqb => ?_⟩⟩, ?_⟩
  · unfold del at hl
    rcases setAt_hp p .dead _ o y hl with h2 | ⟨e2, cs, i, _, h2, _⟩
    · exact h.i3 p e xs o _ b hp h2 hb he
    · exact h.i3 p e xs o _ b hp h2 hb he
  · unfold del at hq
    rcases setAt_inv hpk rfl rfl hq with ⟨_, h2⟩ | ⟨hne, h2⟩ | ⟨_, _, _, _, _, _, h2⟩
    · cases h2
    · exact hne (h.i2 q p e' ys e xs b (kill_own' p s h2) hp hqb hb)
    · cases h2
  · have := hk.recast (v := .dead) (y := E.hdr p) (x := E.hdr p) hpk rfl rfl (h.free_kill p) rfl (by cases p <;> exact hx) (.inr rfl) (by simp [PVal]) (by simp [SV.on]) (by rintro ⟨_, _, h2⟩; cases h2) (by simp [SV.pts])
    rwa [Env.setHdr_self] at this
end
end Go.Ck

set_option linter.unusedVariables false
namespace Go.Ck
open Go.RowKit
section
variable {P : Program} {O0 : Base} {F : Nat → Prop} {w0 w : World} {s : St} {E : Env} {tmps : Array Value}
theorem Rel.ev_good (h : Rel P O0 w0 F s E tmps w) {x : Operand} {v : SV} (hv : ev s x = some v) : Good s v := by
  unfold ev at hv
  split at hv
  · rename_i t
    split at hv
    · rename_i e xs hl
      cases hv
      refine ⟨rfl, fun q hq => ?_, by simp [SV.pts]⟩
      have : q = .slot t := by simpa [SV.on, eq_comm] using hq
      subst this
      exact ⟨⟨e, xs, hl⟩, by simp⟩
    · cases hv
    · cases hv
    · rename_i h1 h2 h3
      refine ⟨?_, fun q hq => ?_, fun o ho => h.np (.slot t) v o hv ho⟩
      · cases v <;> first | rfl | (exact absurd hv (h1 _ _)) | (exact absurd hv (h3 _))
      · exact (h.na (.slot t) v q hv hq).2
  · rename_i c
    unfold ofConst at hv
    split at hv <;> cases hv <;> first | exact .pv _ _ | exact .nils _
  · cases hv
    exact ⟨rfl, by simp [SV.on], by simp [SV.pts]⟩
  · cases hv

theorem pvO_good {o : Option PV} {v : SV} (h : pvO o = some v) : Good s v := by
  cases o <;> cases h; exact .pv _ _
theorem strO_good {o : Option (List Int)} {v : SV} (h : strO o = some v) : Good s v := by
  cases o <;> cases h; exact .pv _ _
theorem aggO_good {o : Option (List PV)} {v : SV} (h : aggO o = some v) : Good s v := by
  cases o <;> cases h; exact .pv _ _
theorem intO_good {o : Option Int} {v : SV} (h : intO o = some v) : Good s v := by
  cases o <;> cases h; exact .pv _ _
theorem eqSV_good {c : Bool} {op : BinOp} {v : SV} (h : eqSV c op = some v) : Good s v := by
  unfold eqSV at h; split at h <;> cases h <;> exact .pv _ _
theorem abinS_good {T : TK} {op : BinOp} {x y v : SV} (h : abinS T op x y = some v) : Good s v := by
  unfold abinS at h
  split at h
  · exact pvO_good h
  · exact pvO_good h
  · split at h
    · exact pvO_good h
    · cases h
  · split at h
    · exact eqSV_good h
    · cases h
  · split at h
    · exact eqSV_good h
    · cases h
  · cases h
theorem convT_good {x : SV} {A B : TK} {C : TypeId → TK} {v : SV} (h : convT s x A B C = some v) : Good s v := by
  unfold convT at h
  split at h
  · split at h <;> cases h; exact .pv _ _
  · split at h <;> cases h; exact .pv _ _
  · split at h
    · unfold bstrO at h
      split at h
      · exact strO_good h
      · cases h
    · cases h
  · cases h
theorem elemO_good {j : Nat} {T : Option (Nat × Bool)} {o : Option PV} {v : SV} (h : elemO j T o = some v) : Good s v := by
  cases o with
  | none => cases h
  | some c => exact pvO_good h
theorem ownO_good {e i j : Nat} {T : Option (Nat × Bool)} {o : Option SV} {v : SV} (h : ownO e i j T o = some v) : Good s v := by
  unfold ownO at h
  split at h
  · split at h
    · exact elemO_good h
    · cases h
  · cases h

theorem Rel.cellO_good (h : Rel P O0 w0 F s E tmps w) {o off : Nat} {e : TypeId} {cs : List SV} (hl : look o s.hp = some (.cells e cs)) {v : SV} (hv : cellO o off cs[off]? = some v) : Good s v := by
  have hat : s.at (.cell o off) = cs[off]? := by simp [St.at, hl]
  rw [← hat] at hv
  cases hc : s.at (.cell o off) with
  | none => rw [hc] at hv; cases hv
  | some u =>
    rw [hc] at hv
    unfold cellO at hv
    split at hv
    · rename_i e' xs he
      cases hv
      cases he
      refine ⟨rfl, fun q hq => ?_, by simp [SV.pts]⟩
      have : q = .cell o off := by simpa [SV.on, eq_comm] using hq
      subst this
      exact ⟨⟨e', xs, hc⟩, by simp⟩
    · cases hv
    · cases hv
    · rename_i h1 h2 h3
      have e : u = v := by simpa using hv
      subst e
      refine ⟨?_, fun q hq => ?_, fun o' ho => h.np _ _ o' hc ho⟩
      · cases u <;> first | rfl | (exact absurd rfl (h1 _ _)) | (exact absurd rfl (h3 _))
      · obtain ⟨⟨d, hd⟩, _⟩ := h.na _ _ q hc hq
        cases hd

theorem Good.of_on {v u : SV} (h : Good s v) (he : u.easy = true) (hon : ∀ q, u.on q = true → v.on q = true) (hp : ∀ o, u.pts o = true → v.pts o = true) : Good s u :=
  ⟨he, fun q hq => h.2.1 q (hon q hq), fun o ho => h.2.2 o (hp o ho)⟩

theorem Rel.aload_good (h : Rel P O0 w0 F s E tmps w) {T : Option (Nat × Bool)} {x v : SV} (hv : aload T s x = some v) : Good s v := by
  unfold aload at hv
  split at hv
  · exact pvO_good hv
  · exact ownO_good hv
  · unfold objO at hv
    split at hv
    · rename_i e cs hl
      split at hv
      · split at hv
        · exact aggO_good hv
        · cases hv
      · exact h.cellO_good hl hv
      · cases hv
    · cases hv
  · cases hv

theorem eaO_good {p : Place} {e k : Nat} {v : SV} (hp : ∀ d i, p ≠ .part d i) (h : eaO p e k (s.at p) = some v) : Good s v := by
  unfold eaO at h
  split at h
  · rename_i e' xs he
    split at h <;> cases h
    refine ⟨rfl, fun q hq => ?_, by simp [SV.pts]⟩
    have : p = q := by simpa [SV.on] using hq
    subst this
    exact ⟨⟨_, _, he⟩, hp⟩
  · cases h

theorem indexT_good {k : Int} {x v : SV} {T : TK} (hx : Good s x) (h : indexT s k x T = some v) : Good s v := by
  unfold indexT at h
  split at h
  · split at h
    · cases h
    · split at h
      · split at h
        · unfold raO at h
          split at h <;> cases h
          exact ⟨rfl, by simp [SV.on], by simp [SV.pts]⟩
        · cases h
      · rename_i p
        exact eaO_good (hx.2.1 p (by simp [SV.on])).2 h
      · split at h <;> cases h
        exact hx.of_on rfl (by simp [SV.on]) (by simp [SV.pts])
      · cases h
  · split at h
    · cases h
    · split at h
      · split at h <;> cases h
        exact hx.of_on rfl (by simp [SV.on]) (by simp [SV.pts])
      · cases h
  · cases h

theorem sliceV_good {l n : Nat} {x v : SV} {T : TK} (hx : Good s x) (h : sliceV l n x T = some v) : Good s v := by
  unfold sliceV at h
  split at h
  · split at h
    · split at h <;> cases h
      exact .pv _ _
    · split at h <;> cases h
      exact hx.of_on rfl (by simp [SV.on]) (by simp [SV.pts])
    · split at h <;> cases h
      exact hx.of_on rfl (by simp [SV.on]) (by simp [SV.pts])
    · split at h <;> cases h
      exact .nils _
    · cases h
  · split at h <;> cases h
    exact .pv _ _
  · cases h

theorem Rel.aval_good (h : Rel P O0 w0 F s E tmps w) {ty : TypeId} {op : Op} {v : SV} (hv : aval P s ty op = some v) : Good s v := by
  unfold aval at hv
  split at hv
  · exact h.ev_good hv
  · exact h.ev_good hv
  · split at hv
    · split at hv <;> cases hv
      exact .pv _ _
    · split at hv <;> cases hv
      exact .pv _ _
    · cases hv
  · split at hv
    · split at hv <;> cases hv
      exact .pv _ _
    · cases hv
  · split at hv
    · exact abinS_good hv
    · cases hv
  · split at hv
    · exact convT_good hv
    · cases hv
  · split at hv <;> cases hv <;> (rename_i he; exact h.ev_good he)
  · split at hv
    · exact h.aload_good hv
    · cases hv
  · split at hv
    · rename_i he
      have hx := h.ev_good he
      unfold afieldAddr at hv
      split at hv
      · split at hv
        · split at hv
          · cases hv
          · split at hv <;> cases hv <;> exact hx.of_on rfl (by simp [SV.on]) (by simp [SV.pts])
        · cases hv
      · cases hv
    · cases hv
  · split at hv
    · unfold afield at hv
      split at hv
      · split at hv
        · split at hv
          · split at hv
            · cases hv
            · exact pvO_good hv
          · cases hv
        · cases hv
      · cases hv
    · cases hv
  · split at hv
    · rename_i he _
      have hx := h.ev_good he
      unfold aindexAddr at hv
      split at hv
      · split at hv
        · cases hv
        · exact indexT_good hx hv
      · cases hv
    · cases hv
  · split at hv
    · rename_i he _ _
      have hx := h.ev_good he
      unfold aslice sliceN at hv
      split at hv
      · split at hv
        · unfold sliceB at hv
          split at hv
          · exact sliceV_good hx hv
          · cases hv
        · cases hv
      · cases hv
    · cases hv
  · split at hv
    · split at hv <;> cases hv
      exact .pv _ _
    · cases hv
  · split at hv <;> cases hv
    exact .pv _ _
  · split at hv
    · split at hv
      · unfold lenT at hv
        split at hv
        · split at hv <;> cases hv
          exact .pv _ _
        · split at hv
          · cases hv
          · cases hv
          · exact intO_good hv
        · split at hv
          · exact intO_good hv
          · cases hv
        · cases hv
      · cases hv
    · split at hv
      · unfold minI at hv
        split at hv
        · split at hv <;> cases hv; exact .pv _ _
        · cases hv
      · cases hv
    · split at hv
      · unfold maxI at hv
        split at hv
        · split at hv <;> cases hv; exact .pv _ _
        · cases hv
      · cases hv
    · cases hv
  · cases hv

/-- An operation that reads alone. -/
theorem aval_put {a : Act} (h : Rel P O0 w0 F s E a.tmps w) {o : Oper} {d : Nat} {v : SV} (hv : aval P s o.type o.op = some v) :
    ∃ x, (execOp a.eval o).run P w = .ok (.value x) w ∧ Rel P O0 w0 F (put d v s) E (a.tmps.setIfInBounds d x) w := by
  obtain ⟨x, h1, h2⟩ := aval_sound h hv
  exact ⟨x, h1, h.putGood d (h.aval_good hv) h2⟩
end
end Go.Ck

set_option linter.unusedVariables false
namespace Go.Ck
open Go.RowKit
theorem setCells_heap (b : Nat) : ∀ (vs : List Value) (o : Nat) (w : World) (cur : Array Value) (e : TypeId) (f : Nat × Nat), w.heap[b]? = some (.cells cur e f) →
    ∃ cur' : Array Value, (w.setCells b o vs).heap[b]? = some (.cells cur' e f) ∧ cur'.size = cur.size ∧ ∀ j, j < cur.size → cur'[j]? = if o ≤ j ∧ j < o + vs.length then vs[j - o]? else cur[j]?
  | [], o, w, cur, e, f, h => ⟨cur, h, rfl, fun j _ => by rw [if_neg (by simp only [List.length_nil]; omega)]⟩
  | v :: r, o, w, cur, e, f, h => by
    have h1 : (w.setCell ⟨b, o, none⟩ v).heap[b]? = some (.cells (cur.setIfInBounds o v) e f) := by rw [setCell_heap, if_pos rfl, h]; rfl
    obtain ⟨cur', h2, h3, h4⟩ := setCells_heap b r (o + 1) _ _ e f h1
    refine ⟨cur', by rw [World.setCells]; exact h2, by simpa using h3, fun j hj => ?_⟩
    rw [h4 j (by simpa using hj)]
    simp only [List.length_cons]
    by_cases hjo : j = o
    · subst hjo
      rw [if_neg (by omega), if_pos (by omega)]
      simp [hj]
    · by_cases h5 : o + 1 ≤ j ∧ j < o + 1 + r.length
      · rw [if_pos h5, if_pos (by omega)]
        rw [show j - o = (j - (o + 1)) + 1 by omega, List.getElem?_cons_succ]
      · rw [if_neg h5, if_neg (by omega)]
        rw [Array.getElem?_setIfInBounds_ne (by omega)]

section
variable {P : Program} (w : World)
/-- append onto an own list, out of whatever source. -/
theorem run_append_own_src (base : Nat) (t tx ty e : TypeId) (i : TypeInfo) (z : Value) (ht : P.underlying t = some (.slice e)) (hi : P.info? e = some i) (hz : i.zero = some z)
    (hzs : z.cells.size = i.size) 
    (v : Value) (n : Nat) (xs : List Value) (hown : w.ownsRow base e i.size v n xs) (x : Value) (m : Nat) (news : List Value) (hs : Src P i.size tx x m news w)
    (h63 : n + m ≤ maxLen) (hbytes : (n + m) * i.bytes ≤ 140737488355328) (hbase : base ≤ w.heap.size) :
    ∃ v' w', (Builtin.append_ #[t, tx] ty #[v, x]).run P w = .ok v' w' ∧ w'.ownsRow base e i.size v' (n + m) (xs ++ news) ∧ w.grownBy w' v.ownBlock ∧
      (v'.ownBlock = v.ownBlock ∨ v'.ownBlock = some w.heap.size) := by
  have hsmall : n + m ≤ 9223372036854775807 := by simp only [maxLen] at h63; omega
  have hnl := hs.newsLen
  have hlen : (xs ++ news).length = (n + m) * i.size := by rw [List.length_append, hown.1, hnl, Nat.add_mul]
  have grow : ∀ (bs : Option Addr) (sc : Nat), v = .slice bs n sc → sc < n + m →
      (Builtin.firstCells i.size n (.slice bs n sc)).run P w.drew = .ok xs.toArray w.drew →
      ∃ v' w', (Builtin.append_ #[t, tx] ty #[v, x]).run P w = .ok v' w' ∧ w'.ownsRow base e i.size v' (n + m) (xs ++ news) ∧ w.grownBy w' v.ownBlock ∧
        (v'.ownBlock = v.ownBlock ∨ v'.ownBlock = some w.heap.size) := by
    rintro bs sc rfl hg hold
    have hrun := run_append_grow_src (P := P) w t tx ty e i z ht hi hz bs n sc xs hold x m news hs hg (by omega) (growslice_fits hg hbytes)
    have hge := grownCap_ge w (n + m) sc e
    have hcm := grownCap_le_maxLen w (n + m) sc e h63
    refine ⟨_, _, hrun, ⟨hlen, .inr ⟨w.heap.size, _, _, rfl, hbase, heap_alloc_new w.drew _, hge, hcm, ?_, ?_⟩⟩, ⟨rfl, rfl, rfl, by simp, fun k hk _ => heap_alloc_old w.drew _ hk⟩, .inr rfl⟩
    · rw [Array.size_append, List.size_toArray, hlen, size_zeroCells, hzs, ← Nat.add_mul]
      congr 1
      omega
    · simp only [Array.toList_append]
      rw [← hlen]
      exact List.take_left
  rcases hown.2 with ⟨rfl, rfl⟩ | ⟨g, cap, cur, rfl, hbg, hg, hnc, hcm, hcs, htake⟩
  · have hx : xs = [] := List.eq_nil_of_length_eq_zero (by simpa using hown.1)
    subst hx
    by_cases hm : m = 0
    · subst hm
      have hn : news = [] := List.eq_nil_of_length_eq_zero (by simpa using hnl)
      subst hn
      exact ⟨_, _, run_append_nothing (P := P) w t tx ty e i ht hi none 0 0 (Nat.le_refl _) x hs, World.ownsRow_nil w base e i.size, ⟨rfl, rfl, rfl, Nat.le_refl _, fun _ _ _ => rfl⟩, .inl rfl⟩
    · exact grow none 0 rfl (by omega) (run_firstCells_none w.drew i.size 0 0 0)
  · by_cases hroom : n + m ≤ cap
    · have hfit : n * i.size + news.length ≤ cur.size := by rw [hnl, hcs, ← Nat.add_mul]; exact Nat.mul_le_mul_right _ hroom
      obtain ⟨cur', h1, h2, h3⟩ := setCells_heap g news (n * i.size) w cur e (0, 0) hg
      have hr := run_append_room_src (P := P) w t tx ty e i ht hi g 0 n cap x m news hs hroom
        (fun j hj => by simp [World.cell?, hg]; omega) (fun j hj => by simp [World.frozen?, hg])
      refine ⟨_, _, hr, ⟨hlen, .inr ⟨g, cap, cur', rfl, hbg, by rw [Nat.zero_add]; exact h1, hroom, hcm, by rw [h2, hcs], ?_⟩⟩, ⟨?_, ?_, ?_, ?_, fun k hk hne => ?_⟩, .inl rfl⟩
      · apply List.ext_getElem?
        intro j
        rw [List.getElem?_take]
        by_cases hj : j < (n + m) * i.size
        · rw [if_pos hj, Array.getElem?_toList, h3 j (by rw [Nat.add_mul] at hj; omega)]
          by_cases hjn : j < n * i.size
          · rw [if_neg (by omega), List.getElem?_append_left (by rw [hown.1]; exact hjn), ← htake, List.getElem?_take, if_pos hjn, Array.getElem?_toList]
          · rw [if_pos (by rw [Nat.add_mul] at hj; omega), List.getElem?_append_right (by rw [hown.1]; omega), hown.1]
        · rw [if_neg hj, List.getElem?_eq_none (by rw [hlen]; omega)]
      · exact World.os_setCells _ _ _ _
      · have : ∀ (vs : List Value) (o : Nat) (w : World), (w.setCells g o vs).tape = w.tape := by
          intro vs
          induction vs with
          | nil => intro o w; rfl
          | cons v r ih => intro o w; rw [World.setCells, ih]; rfl
        exact this _ _ _
      · exact World.output_setCells _ _ _ _
      · have : ∀ (vs : List Value) (o : Nat) (w : World), (w.setCells g o vs).heap.size = w.heap.size := by
          intro vs
          induction vs with
          | nil => intro o w; rfl
          | cons v r ih => intro o w; rw [World.setCells, ih]; simp
        exact Nat.le_of_eq (this _ _ _).symm
      · exact World.heap_setCells_other w g _ news hk (fun he => hne (by simp [Value.ownBlock, he]))
    · have holds : ∀ j u, xs[j]? = some u → w.drew.cell? ((⟨g, 0, none⟩ : Addr).add j) = some u := by
        simpa using hown.cells (g := g) rfl
      exact grow (some ⟨g, 0, none⟩) cap rfl (by omega) (run_firstCells_some w.drew i.size n ⟨g, 0, none⟩ n cap xs hown.1 holds)
end
end Go.Ck

set_option linter.unusedVariables false
namespace Go.Ck
open Go.RowKit
section
variable {P : Program} {O0 : Base} {F : Nat → Prop} {w0 w : World} {s : St} {E : Env} {tmps : Array Value}
/-- An own list, in a world that has grown. -/
theorem Rel.newOwn (h : Rel P O0 w0 F s E tmps w) {w' : World} {M : Nat → Prop} (hg : Grow M w w') (hM : ∀ b, M b → E.om b ∧ Unused s E b) {e : TypeId} {xs : List PV} {x : Value} (d : Nat)
    (ho : OwnL P (fun b => (E.om b ∨ w.heap.size ≤ b ∧ b < w'.heap.size) ∨ F b) w' e x xs) (hb : ∀ b, x.ownBlock = some b → (E.om b ∧ Unused s E b) ∨ (w.heap.size ≤ b ∧ b < w'.heap.size)) :
    ∃ E', Rel P O0 w0 F (put d (.own e xs) s) E' (tmps.setIfInBounds d x) w' := by
  have h' := h.world hg hM (fun b => w.heap.size ≤ b ∧ b < w'.heap.size) (fun b hb => hb)
  refine h'.putOwn d ho (fun b hb' => ?_)
  rcases hb b hb' with ⟨h1, h2⟩ | h1
  · exact ⟨.inl h1, h2⟩
  · refine ⟨.inr h1, fun o y hl he => ?_, fun p e xs hp hpb => ?_⟩
    · have := (h.om_lt _ (h.obj o y hl).1).1
      have he' : E.obj o = b := he
      omega
    · obtain ⟨x, _, _, _, h3⟩ := h.place p _ hp
      have := (h.om_lt b (h3 b hpb)).1
      omega

theorem isSrc_kind {t : TypeId} (h : (tk P t).isSrc = true) : (∃ e', P.underlying t = some (.slice e')) ∨ P.underlying t = some .string := by
  cases hT : tk P t <;> rw [hT] at h <;> cases h
  · exact .inr (tk_str hT)
  · exact .inl ⟨_, (tk_sl hT).1⟩

theorem ROs.oneCell {A : Nat → Prop} {cs : List PV} {vs : List Value} (h : ROs A w cs vs) : ∀ u ∈ vs, u.oneCell' = true := by
  intro u hu
  obtain ⟨i, hi, he⟩ := List.mem_iff_getElem.1 hu
  have hi' : i < cs.length := by rw [← h.1]; exact hi
  have h1 : cs[i]? = some cs[i] := List.getElem?_eq_getElem hi'
  exact (h.2.2 i _ u h1 (by rw [← he]; exact List.getElem?_eq_getElem hi)).oneCell (h.2.1 _ (List.getElem_mem hi'))

theorem src_of (a : Option Addr) (n c : Nat) {tx : TypeId} {size : Nat} (hk : (∃ e', P.underlying tx = some (.slice e')) ∨ P.underlying tx = some .string) {news : List Value} (hl : news.length = n * size) (hsz : 0 < size)
    (hm : ∀ (i : Nat) (v : Value), news[i]? = some v → ∃ ad : Addr, a = some ad ∧ w.cell? (ad.add i) = some v) (h1 : ∀ u ∈ news, u.oneCell' = true) : Src P size tx (.slice a n c) n news w := by
  cases a with
  | none =>
    have : news = [] := by
      cases news with
      | nil => rfl
      | cons v r =>
        obtain ⟨ad, h2, _⟩ := hm 0 v rfl
        cases h2
    subst this
    have hn : n = 0 := by
      rcases Nat.eq_zero_or_pos n with h2 | h2
      · exact h2
      · have := Nat.mul_pos h2 hsz
        simp at hl; omega
    subst hn
    exact ⟨hk, fun _ => rfl, run_firstCells_none w size 0 0 c, run_firstCells_none w.drew size 0 0 c, by simp, fun _ h => by cases h⟩
  | some ad =>
    have hc : ∀ j v, news[j]? = some v → w.cell? (ad.add j) = some v := by
      intro j v hv
      obtain ⟨ad', h2, h3⟩ := hm j v hv
      cases h2
      exact h3
    exact ⟨hk, fun _ => rfl, run_firstCells_some w size n ad n c news hl hc, run_firstCells_some w.drew size n ad n c news hl (by simpa using hc), hl, h1⟩

theorem flat_strBytes (l : List UInt8) : flat (strBytes l) = strBytes l := by
  induction l with
  | nil => rfl
  | cons b r ih => simp only [strBytes, List.map_cons, flat_cons, PV.cells] at ih ⊢; rw [ih]; rfl

/-- What is appended. -/
theorem elems_src (h : Rel P O0 w0 F s E tmps w) {y : SV} {x : Value} {ys : List PV} {ez : Nat} {tx : TypeId} (hT : (tk P tx).isSrc = true) (hez : ez ≠ 0) (he : elemsOf P s ez y = some ys) (hr : RS P (fun b => E.om b ∨ F b) E w y x) :
    ∃ news, Src P ez tx x ys.length news w ∧ ROs (fun b => E.om b ∨ F b) w (flat ys) news ∧ ∀ c ∈ ys, c.cells.length = ez := by
  have hk := isSrc_kind hT
  unfold elemsOf at he
  split at he
  · rename_i l
    split at he <;> cases he
    rename_i h1
    subst h1
    cases hr with | pv _ _ hr => ?_
    cases hr
    refine ⟨byteCells ⟨l.toArray⟩, ?_, ?_, ?_⟩
    · have hsz : (strBytes l).length = (⟨l.toArray⟩ : ByteArray).size := by simp [strBytes, ByteArray.size]
      rw [hsz]
      refine ⟨hk, fun _ => rfl, firstCells_string _ w, firstCells_string _ w.drew, by rw [byteCells_length, Nat.mul_one], fun u hu => ?_⟩
      obtain ⟨_, _, rfl⟩ := List.mem_map.1 hu
      rfl
    · rw [flat_strBytes]
      refine ⟨by simp [byteCells, strBytes], fun c hc => ?_, fun i c v hc hv => ?_⟩
      · obtain ⟨_, _, rfl⟩ := List.mem_map.1 hc
        rfl
      · simp only [strBytes, List.getElem?_map, byteCells, Option.map_eq_some_iff] at hc hv
        obtain ⟨b, hb, rfl⟩ := hc
        obtain ⟨b', hb', rfl⟩ := hv
        have e : b = b' := by
          have := hb.symm.trans (by simpa using hb')
          simpa using this
        subst e
        exact .int _ _
    · intro c hc
      obtain ⟨_, _, rfl⟩ := List.mem_map.1 hc
      rfl
  · rename_i z xs
    split at he <;> cases he
    rename_i h1
    subst h1
    cases hr with | pv _ _ hr => ?_
    obtain ⟨vs, a, cap, rfl, h2, h3, h4, h5, h6⟩ := hr.slParts
    refine ⟨vs, src_of a _ cap hk (by rw [h2.1, flat_length h4]) (by omega) (fun i v hv => ?_) h2.oneCell, h2, h4⟩
    obtain ⟨ad, e1, _, e2⟩ := h3 i v hv
    exact ⟨ad, e1, e2⟩
  · cases he
    cases hr
    exact ⟨[], src_of none 0 0 hk (by simp) (by omega) (by simp) (by simp), ROs.nil _ _, by simp⟩
  · rename_i p
    unfold elemsO at he
    split at he
    · rename_i e xs hp
      split at he <;> cases he
      rename_i hez'
      cases hr
      obtain ⟨cs, h1, h2, h3, h4⟩ := h.own hp
      rw [hez'] at h3 h1
      refine ⟨cs, ?_, h2, h3⟩
      rcases h1.2 with ⟨e1, h0⟩ | ⟨g, cap, cur, e1, _⟩
      · have hx : ys = [] := List.eq_nil_of_length_eq_zero h0
        subst hx
        have : cs = [] := List.eq_nil_of_length_eq_zero (by simpa using h1.1)
        subst this
        rw [e1]
        exact src_of none 0 0 hk (by simp) (by omega) (by simp) (by simp)
      · rw [e1]
        refine src_of _ _ cap hk h1.1 (by omega) (fun i v hv => ⟨_, rfl, ?_⟩) h2.oneCell
        exact h1.cells (g := g) (by rw [e1]; rfl) i v hv
    · cases he
  · rename_i p e off n
    split at he
    · rename_i hce
      split at he
      · rename_i xs hxs
        cases he
        unfold elemsO at hxs
        split at hxs
        · rename_i e' xs' hp
          split at hxs <;> cases hxs
          rename_i hez'
          cases hr with | vw _ _ _ _ _ hv => ?_
          obtain ⟨⟨a, len, cap, e1, hle⟩, a', cap', rfl, hcap', hblk⟩ := hv
          obtain ⟨cs, h1, h2, h3, h4⟩ := h.own hp
          rw [hez'] at h3 h1
          obtain ⟨a2, cap2, e2, _⟩ := (h.own hp).form
          have hlen : len = xs.length := by rw [e1] at e2; simpa using (Value.slice.inj e2).2.1
          subst hlen
          have hyl : ((xs.drop off).take n).length = n := by simp; omega
          have hmul : off * ez + n * ez ≤ xs.length * ez := by rw [← Nat.add_mul]; exact Nat.mul_le_mul_right _ hle
          refine ⟨(cs.drop (off * ez)).take (n * ez), ?_, ?_, fun c hc => h3 c (List.mem_of_mem_drop (List.mem_of_mem_take hc))⟩
          · rw [hyl]
            refine src_of _ _ cap' hk ?_ (by omega) (fun i v hv => ?_) ((h2.drop _).take _).oneCell
            · rw [List.length_take, List.length_drop, h1.1]; omega
            · have hi : i < n * ez := by
                rcases Nat.lt_or_ge i (n * ez) with h5 | h5
                · exact h5
                · rw [List.getElem?_take, if_neg (by omega)] at hv; cases hv
              rw [List.getElem?_take, if_pos hi, List.getElem?_drop] at hv
              have hn : 0 < n := by
                rcases Nat.eq_zero_or_pos n with h5 | h5
                · subst h5; simp at hi
                · exact h5
              obtain ⟨b, hb, rfl⟩ := hblk hn
              refine ⟨_, rfl, ?_⟩
              have := h1.cells hb _ v hv
              rw [add_mk, Nat.zero_add] at this
              rw [add_mk, hce]
              exact this
          · rw [flat_take (fun x hx => h3 x (List.mem_of_mem_drop hx)), flat_drop h3]
            exact (h2.drop _).take _
        · cases hxs
      · cases he
    · cases he
  · cases he
end
end Go.Ck

set_option linter.unusedVariables false
namespace Go.Ck
open Go.RowKit
section
variable {P : Program} {O0 : Base} {F : Nat → Prop} {w0 w : World} {s : St} {E : Env} {tmps : Array Value}
theorem zok_parts {e : TypeId} (h : zok P e = true) : ∃ i z, P.info? e = some i ∧ i.zero = some z ∧ z.cells.size = i.size := by
  unfold zok at h
  split at h
  · rename_i i hi
    split at h
    · rename_i z hz
      exact ⟨i, z, hi, hz, by simpa using h⟩
    · cases h
  · cases h

theorem Grow.of_grownBy {w w' : World} {r : Option Nat} (h : w.grownBy w' r) : Grow (fun b => r = some b) w w' :=
  ⟨h.os, h.tape, h.output, h.size, fun b hb hn => h.block b hb (fun e => hn e.symm)⟩

/-- One append. -/
theorem Rel.append (h : Rel P O0 w0 F s E tmps w) {vx : Value} {e : TypeId} {xs ys : List PV} (d : Nat) (t tx ty : TypeId) (ht : P.underlying t = some (.slice e)) (hz : zok P e = true) (hez : P.cellsOf e ≠ 0)
    (ho : OwnL P (fun b => E.om b ∨ F b) w e vx xs) (hb : ∀ b, vx.ownBlock = some b → E.om b ∧ Unused s E b) {x : Value} {news : List Value} (hs : Src P (P.cellsOf e) tx x ys.length news w)
    (hn : ROs (fun b => E.om b ∨ F b) w (flat ys) news) (hy : ∀ c ∈ ys, c.cells.length = P.cellsOf e) (h1 : (xs.length + ys.length) * P.bytesOf e ≤ room) (h2 : xs.length + ys.length ≤ room) :
    ∃ v' w' E', (Builtin.append_ #[t, tx] ty #[vx, x]).run P w = .ok v' w' ∧ Rel P O0 w0 F (put d (.own e (xs ++ ys)) s) E' (tmps.setIfInBounds d v') w' := by
  obtain ⟨i, z, hi, hiz, hzs⟩ := zok_parts hz
  have hsz : P.cellsOf e = i.size := by simp [Program.cellsOf, hi]
  have hby : P.bytesOf e = i.bytes := by simp [Program.bytesOf, hi]
  obtain ⟨cs, c1, c2, c3, c4⟩ := ho
  rw [hsz] at c1 hs
  rw [hby] at h1
  have h63 : xs.length + ys.length ≤ maxLen := by unfold room at h2; simp only [maxLen]; omega
  obtain ⟨v', w', hr, hown, hg, hblk⟩ := run_append_own_src (P := P) w 0 t tx ty e i z ht hi hiz hzs vx xs.length cs c1 x ys.length news hs h63 h1 (Nat.zero_le _)
  have hgr := Grow.of_grownBy hg
  have hA : ∀ b, b < w.heap.size → ¬ (E.om b ∨ F b) → ¬ ((E.om b ∨ w.heap.size ≤ b ∧ b < w'.heap.size) ∨ F b) ∧ w'.heap[b]? = w.heap[b]? := by
    intro b hb' hn'
    refine ⟨?_, hgr.block b hb' (fun he => hn' (.inl (hb b he).1))⟩
    rintro ((h3 | h3) | h3)
    · exact hn' (.inl h3)
    · omega
    · exact hn' (.inr h3)
  have fin : ∃ E', Rel P O0 w0 F (put d (.own e (xs ++ ys)) s) E' (tmps.setIfInBounds d v') w' := ?_
  · obtain ⟨E', hE⟩ := fin
    exact ⟨v', w', E', hr, hE⟩
  refine h.newOwn hgr (fun b hb' => hb b hb') (e := e) (xs := xs ++ ys) (x := v') d ?_ ?_
  · refine ⟨cs ++ news, ?_, ?_, ?_, by rw [List.length_append]; exact h63⟩
    · rw [List.length_append, hsz]; exact hown
    · rw [flat_append]; exact (c2.mono hA).append (hn.mono hA)
    · intro c hc
      rcases List.mem_append.1 hc with hc | hc
      · exact c3 c hc
      · exact hy c hc
  · intro b hb'
    rcases hblk with h3 | h3
    · exact .inl (hb b (by rw [← h3]; exact hb'))
    · rw [h3] at hb'
      cases hb'
      right
      refine ⟨Nat.le_refl _, ?_⟩
      rcases hown.2 with ⟨e1, _⟩ | ⟨g, cap, cur, e1, _, hgb, _⟩
      · rw [e1] at h3; simp [Value.ownBlock] at h3
      · rw [e1] at h3
        simp [Value.ownBlock] at h3
        rw [← h3]
        exact (Array.getElem?_eq_some_iff.1 hgb).1

theorem aappend_sound (h : Rel P O0 w0 F s E tmps w) {t tx ty : TypeId} {d : Nat} {x y : SV} {s' : St} {vx vy : Value} (hT : (tk P tx).isSrc = true) (ha : aappend P s d x y (tk P t) = some s')
    (hx : RS P (fun b => E.om b ∨ F b) E w x vx) (hy : RS P (fun b => E.om b ∨ F b) E w y vy) :
    ∃ v' w' E', (Builtin.append_ #[t, tx] ty #[vx, vy]).run P w = .ok v' w' ∧ Rel P O0 w0 F s' E' (tmps.setIfInBounds d v') w' := by
  unfold aappend at ha
  split at ha
  · rename_i e ez eb ea htk
    obtain ⟨ht, hez, heb⟩ := tk_sl htk
    split at ha
    · rename_i hc
      subst hez
      subst heb
      unfold appendX at ha
      split at ha
      · rename_i ys hys
        obtain ⟨news, h1, h2, h3⟩ := elems_src h hT hc.1 hys hy
        split at ha
        · split at ha
          · rename_i hr
            cases ha
            cases hx
            have := h.append (xs := []) (vx := .slice none 0 0) d t tx ty ht hc.2 hc.1 ⟨[], World.ownsRow_nil w 0 e _, ROs.nil _ _, by simp, by simp⟩ (by simp [Value.ownBlock]) h1 h2 h3 (by simpa using hr.1) (by simpa using hr.2)
            simpa using this
          · cases ha
        · rename_i p
          unfold appendO at ha
          split at ha
          · rename_i e' xs hp
            split at ha
            · rename_i hr
              obtain ⟨rfl, h4, h5⟩ := hr
              cases ha
              cases hx
              obtain ⟨_, t2, t3, t4⟩ := h.take hp
              exact t4.append d t tx ty ht hc.2 hc.1 t2 t3 h1 h2 h3 h4 h5
            · cases ha
          · cases ha
        · cases ha
      · cases ha
    · cases ha
  · cases ha
end
end Go.Ck

set_option linter.unusedVariables false
namespace Go.Ck
open Go.RowKit
section
variable {P : Program} {O0 : Base} {F : Nat → Prop} {w0 w : World} {s : St} {E : Env} {tmps : Array Value}
theorem ofConst_good {c : Value} {v : SV} (h : ofConst c = some v) : Good s v ∧ c.cells = #[c] ∧ oneSV v = true ∧ (∀ q, v.on q = false) ∧ ∀ o, v.pts o = false := by
  unfold ofConst at h
  split at h <;> cases h <;> refine ⟨?_, rfl, rfl, fun _ => rfl, fun _ => rfl⟩ <;> first | exact .pv _ _ | exact .nils _
theorem pvOf_sound {A : Nat → Prop} {v : Value} {p : PV} (h : pvOf v = some p) : RO A w p v ∧ p.one = true ∧ v.cells = #[v] := by
  unfold pvOf ofConst at h
  split at h
  · rename_i q hq
    cases h
    split at hq <;> cases hq
    · exact ⟨.int _ _, rfl, rfl⟩
    · exact ⟨.bool _, rfl, rfl⟩
    · rename_i l
      have : (⟨l.data.toList.toArray⟩ : ByteArray) = l := by simp
      exact ⟨by rw [← this]; simpa using RO.str (A := A) (w := w) l.data.toList, rfl, rfl⟩
    · exact ⟨.nilp, rfl, rfl⟩
    · exact ⟨.nilf, rfl, rfl⟩
    · exact ⟨.nili, rfl, rfl⟩
  · rename_i hq
    cases h
    split at hq <;> cases hq
    exact ⟨RO.mkSl (vs := []) (ROs.nil _ _) (by simp) (by simp) (by simp) (by simp), rfl, rfl⟩
  · cases h
theorem pvsOf_sound {A : Nat → Prop} {vs : List Value} {ps : List PV} (h : pvsOf vs = some ps) : ROs A w ps vs := by
  induction vs generalizing ps with
  | nil => cases h; exact ROs.nil _ _
  | cons v r ih =>
    unfold pvsOf at h
    split at h
    · rename_i x xs hx hxs
      cases h
      obtain ⟨h1, h2, h3⟩ := pvOf_sound (A := A) (w := w) hx
      have h4 := ih hxs
      refine ⟨by simp [h4.1], fun c hc => ?_, fun i c v' hc hv => ?_⟩
      · rcases List.mem_cons.1 hc with rfl | hc
        · exact h2
        · exact h4.2.1 c hc
      · cases i with
        | zero => simp at hc hv; subst hc; subst hv; exact h1
        | succ i => exact h4.2.2 i c v' (by simpa using hc) (by simpa using hv)
    · cases h
theorem zeroElem_sound {A : Nat → Prop} {e : TypeId} {p : PV} (h : zeroElem P e = some p) : ∃ i z, P.info? e = some i ∧ i.zero = some z ∧ z.cells.size = i.size ∧ RO A w p z ∧ p.cells.length = i.size := by
  unfold zeroElem at h
  split at h
  · rename_i i hi
    split at h
    · rename_i vs hz
      split at h
      · rename_i hs
        unfold aggP at h
        split at h
        · rename_i ps hps
          cases h
          obtain ⟨h1, h2, h3⟩ := pvsOf_sound (A := A) (w := w) hps
          exact ⟨i, _, hi, hz, hs, .agg ps vs (by simpa using h1) h2 (fun j c v hc hv => h3 j c v hc (by simpa using hv)), by simp only [PV.cells]; rw [← hs, ← h1]; simp⟩
        · cases h
      · cases h
    · rename_i v hv hz
      split at h
      · rename_i hs
        obtain ⟨h1, h2, h3⟩ := pvOf_sound (A := A) (w := w) h
        refine ⟨i, v, hi, hz, by rw [h3, hs]; rfl, h1, ?_⟩
        rw [(h1.cells_of_one h2).2, hs]; rfl
      · cases h
    · cases h
  · cases h

theorem flat_replicate_at {z : PV} {k : Nat} (hz : z.cells.length = k) (n j : Nat) (hj : j < n * k) : (flat (List.replicate n z))[j]? = z.cells[j % k]? := by
  have hk : 0 < k := by
    rcases Nat.eq_zero_or_pos k with h | h
    · subst h; simp at hj
    · exact h
  have h1 : j / k < n := (Nat.div_lt_iff_lt_mul hk).2 hj
  have h2 := flat_at (xs := List.replicate n z) (z := k) (i := j / k) (x := z) (fun x hx => by rw [List.eq_of_mem_replicate hx]; exact hz) (by rw [List.getElem?_replicate, if_pos h1]) (j % k) (Nat.mod_lt _ hk)
  rwa [Nat.mul_comm, Nat.div_add_mod] at h2

theorem made_ros {A : Nat → Prop} {p : PV} {z : Value} (hr : RO A w p z) (n : Nat) : ROs A w (flat (List.replicate n p)) (madeCells z.cells (n * p.cells.length)).toList := by
  have hc := hr.cellsROs
  have hl : (flat (List.replicate n p)).length = n * p.cells.length := by rw [flat_length (z := p.cells.length) (fun x hx => by rw [List.eq_of_mem_replicate hx])]; simp
  have hzs : z.cells.size = p.cells.length := by simpa using hc.1
  refine ⟨by simp [size_madeCells, hl], fun c hc' => ?_, fun i c v h1 h2 => ?_⟩
  · obtain ⟨j, hj, he⟩ := List.mem_iff_getElem.1 hc'
    have h1 : (flat (List.replicate n p))[j]? = some c := by rw [← he]; exact List.getElem?_eq_getElem hj
    rw [flat_replicate_at rfl n j (by omega)] at h1
    exact hc.2.1 c (List.mem_of_getElem? h1)
  · have hi : i < n * p.cells.length := by rw [← hl]; exact (List.getElem?_eq_some_iff.1 h1).1
    have hk : 0 < p.cells.length := by
      rcases Nat.eq_zero_or_pos p.cells.length with h | h
      · rw [h] at hi; simp at hi
      · exact h
    rw [flat_replicate_at rfl n i hi] at h1
    have hm : i % z.cells.size < z.cells.size := Nat.mod_lt _ (by omega)
    have e : (madeCells z.cells (n * p.cells.length)).toList[i]? = z.cells.toList[i % p.cells.length]? := by
      rw [Array.getElem?_toList, Array.getElem?_toList, ← hzs, madeCells, Array.getElem?_map, Array.getElem?_range, if_pos (by rw [hzs]; exact hi)]
      simp only [Option.map_some]
      rw [getElem!_pos z.cells _ hm, Array.getElem?_eq_getElem hm]
    rw [e] at h2
    exact hc.2.2 _ c v h1 h2

theorem Grow.alloc (w : World) (o : Obj) : Grow (fun _ => False) w (w.alloc o) := ⟨rfl, rfl, rfl, by simp, fun b hb _ => heap_alloc_old w o hb⟩

/-- A new list. -/
theorem Rel.newRow (h : Rel P O0 w0 F s E tmps w) {e : TypeId} {xs : List PV} {vs : Array Value} (d : Nat) (hr : ROs (fun b => E.om b ∨ F b) w (flat xs) vs.toList) (hz : ∀ x ∈ xs, x.cells.length = P.cellsOf e) (c : Nat) (hc : xs.length ≤ c) (hm : c ≤ maxLen)
    (zs : Array Value) (hzs : zs.size = (c - xs.length) * P.cellsOf e) :
    ∃ E', Rel P O0 w0 F (put d (.own e xs) s) E' (tmps.setIfInBounds d (.slice (some ⟨w.heap.size, 0, none⟩) xs.length c)) (w.alloc (.cells (vs ++ zs) e)) := by
  have hvs : vs.size = xs.length * P.cellsOf e := by
    have := hr.1
    rw [flat_length hz] at this
    simpa using this
  have hsz : (w.alloc (.cells (vs ++ zs) e)).heap.size = w.heap.size + 1 := by simp
  refine h.newOwn (Grow.alloc w _) (by simp) d ⟨vs.toList, ⟨by simpa using hvs, .inr ⟨w.heap.size, c, _, rfl, Nat.zero_le _, heap_alloc_new w _, hc, hm, ?_, ?_⟩⟩, ?_, hz, Nat.le_trans hc hm⟩ (fun b hb => ?_)
  · rw [Array.size_append, hvs, hzs, ← Nat.add_mul]; congr 1; omega
  · rw [Array.toList_append, ← hvs]; exact List.take_left' (by simp)
  · refine hr.mono (fun b hb hn => ⟨?_, heap_alloc_old w _ hb⟩)
    rintro ((h3 | h3) | h3)
    · exact hn (.inl h3)
    · omega
    · exact hn (.inr h3)
  · simp [Value.ownBlock] at hb
    subst hb
    exact .inr ⟨Nat.le_refl _, by rw [hsz]; omega⟩
end
end Go.Ck

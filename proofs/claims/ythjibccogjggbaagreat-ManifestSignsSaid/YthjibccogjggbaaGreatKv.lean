/- What is proved here: parts of the proofs of this seat's statements (a verified evaluator for calls over pure values, its laws, and contracts of functions). No condition. -/
import Derived.Test.YthjibccogjggbaaGreatKu
import Derived.Test.YthjibccogjggbaaGreatKo
import Derived.Test.YthjibccogjggbaaGreatKt
set_option linter.all false
set_option linter.unusedVariables false
namespace Go.Ck
abbrev RdS := List Nat × Int
def rdB (n : Nat) (s : RdS) : List Nat × RdS := if s.2 ≠ 0 then ([], s) else if n ≤ s.1.length then (s.1.take n, s.1.drop n, 0) else ([], s.1, 2)
def rdV (s : RdS) : Nat × RdS := if s.2 ≠ 0 then (0, s) else ((readV s.1).1, s.1.drop (readV s.1).2.1, (readV s.1).2.2)
def rdN (ok : Bool) (e : Int) (s : RdS) : RdS := if s.2 = 0 ∧ ok = false then (s.1, e) else s
def rdT : Nat → List (List UInt8) → RdS → List (List UInt8) × RdS
  | 0, acc, s => (acc, s)
  | k + 1, acc, s => if s.2 ≠ 0 then (acc, s) else rdT k (acc ++ [ub (blk s.1 64).1]) (rdN (okT acc (ub (blk s.1 64).1)) 3 ((blk s.1 64).2.2, (blk s.1 64).2.1))
def rdD (s : RdS) : List (List UInt8) × RdS := rdT (rdV s).1 [] (rdN (decide ((rdV s).1 ≤ 1048576)) 4 (rdV s).2)
def rdE1 (ts : List (List UInt8)) (s : RdS) : RdS := rdN (decide ((rdV s).1 < ts.length)) 3 (rdV s).2
def okOne (l : List Nat) : Bool := decide (l.length = 1) && decide (l.headD 0 ≤ 8)
theorem okOne_one (x : Nat) : okOne [x] = decide (x ≤ 8) := by unfold okOne; simp
def rdE2 (ts : List (List UInt8)) (s : RdS) : RdS := rdN (okOne (rdB 1 (rdE1 ts s)).1) 3 (rdB 1 (rdE1 ts s)).2
def rdE (ts : List (List UInt8)) : Nat → List Bool → List Ent → RdS → List Bool × List Ent × RdS
  | 0, us, es, s => (us, es, s)
  | k + 1, us, es, s => if s.2 ≠ 0 then (us, es, s) else if (rdE2 ts s).2 = 0 then rdE ts k (us.set (rdV s).1 true) (es ++ [entD (ts.getD (rdV s).1 []) ((rdB 1 (rdE1 ts s)).1.headD 0)]) (rdE2 ts s)
      else rdE ts k us es (rdE2 ts s)
def rdU : List Bool → RdS → RdS
  | [], s => s
  | u :: us, s => rdU us (rdN u 3 s)
def refD5 (v : Nat) (p : List Nat) (us : List Bool) (es : List Ent) (s : RdS) : Man × Int :=
  if (rdU us (rdN (decide ((rdB 32 s).2.1.length = 0)) 3 (rdB 32 s).2)).2 ≠ 0 then noM (rdU us (rdN (decide ((rdB 32 s).2.1.length = 0)) 3 (rdB 32 s).2)).2 else (⟨v, p, es, (rdB 32 s).1⟩, 0)
def rdEs (ts : List (List UInt8)) (s : RdS) : List Bool × List Ent × RdS := rdE ts (rdV s).1 (List.replicate ts.length false) [] (rdN (decide ((rdV s).1 ≤ 1048576)) 4 (rdV s).2)
def refD4 (v : Nat) (p : List Nat) (ts : List (List UInt8)) (s : RdS) : Man × Int := refD5 v p (rdEs ts s).1 (rdEs ts s).2.1 (rdEs ts s).2.2
def refD3 (v : Nat) (p : List Nat) (s : RdS) : Man × Int := refD4 v p (rdD s).1 (rdD s).2
def refD2 (v : Nat) (s : RdS) : Man × Int := refD3 v (rdB 32 s).1 (rdB 32 s).2
def refD1 (s : RdS) : Man × Int := refD2 (beN (rdB 8 s).1) (rdN (beN (rdB 8 s).1 != 18446744073709551615) 3 (rdB 8 s).2)
def refD (b : List Nat) : Man × Int := refD1 (rdN ((rdB 4 (b, 0)).1 == [67, 83, 75, 49]) 3 (rdB 4 (b, 0)).2)

theorem rdB_err {n : Nat} {s : RdS} (h : s.2 ≠ 0) : rdB n s = ([], s) := by unfold rdB; rw [if_pos h]
theorem rdV_err {s : RdS} (h : s.2 ≠ 0) : rdV s = (0, s) := by unfold rdV; rw [if_pos h]
theorem rdN_err {ok : Bool} {e : Int} {s : RdS} (h : s.2 ≠ 0) : rdN ok e s = s := by unfold rdN; rw [if_neg (fun k => h k.1)]
theorem rdN_ok (ok : Bool) (e : Int) (q : List Nat) : rdN ok e (q, 0) = if ok = true then (q, 0) else (q, e) := by
  unfold rdN; cases ok <;> simp
theorem rdT_err : ∀ (n : Nat) (acc : List (List UInt8)) {s : RdS}, s.2 ≠ 0 → rdT n acc s = (acc, s)
  | 0, acc, s, h => rfl
  | n + 1, acc, s, h => by unfold rdT; rw [if_pos h]
theorem rdE_err (ts : List (List UInt8)) : ∀ (n : Nat) (us : List Bool) (es : List Ent) {s : RdS}, s.2 ≠ 0 → rdE ts n us es s = (us, es, s)
  | 0, us, es, s, h => rfl
  | n + 1, us, es, s, h => by unfold rdE; rw [if_pos h]
theorem rdU_err : ∀ (us : List Bool) {s : RdS}, s.2 ≠ 0 → rdU us s = s
  | [], s, h => rfl
  | u :: us, s, h => by unfold rdU; rw [rdN_err h]; exact rdU_err us h
theorem rdU_ok : ∀ (us : List Bool) (q : List Nat), rdU us (q, 0) = if us.all id = true then (q, 0) else (q, 3)
  | [], q => rfl
  | u :: us, q => by
    unfold rdU; rw [rdN_ok]
    cases u with
    | true => rw [if_pos rfl, rdU_ok us q]; simp
    | false => rw [if_neg (by decide), rdU_err us (by simp)]; simp
theorem refD5_err {v : Nat} {p : List Nat} {us : List Bool} {es : List Ent} {s : RdS} (h : s.2 ≠ 0) : refD5 v p us es s = noM s.2 := by
  unfold refD5; rw [rdB_err h, rdN_err h, rdU_err us h, if_pos h]
theorem refD4_err {v : Nat} {p : List Nat} {ts : List (List UInt8)} {s : RdS} (h : s.2 ≠ 0) : refD4 v p ts s = noM s.2 := by
  unfold refD4 rdEs; rw [rdV_err h, rdN_err h, rdE_err ts _ _ _ h]; exact refD5_err h
theorem refD3_err {v : Nat} {p : List Nat} {s : RdS} (h : s.2 ≠ 0) : refD3 v p s = noM s.2 := by
  unfold refD3 rdD; rw [rdV_err h, rdN_err h, rdT_err _ _ h]; exact refD4_err h
theorem refD2_err {v : Nat} {s : RdS} (h : s.2 ≠ 0) : refD2 v s = noM s.2 := by
  unfold refD2; rw [rdB_err h]; exact refD3_err h
theorem refD1_err {s : RdS} (h : s.2 ≠ 0) : refD1 s = noM s.2 := by
  unfold refD1; rw [rdB_err h, rdN_err h]; exact refD2_err h

theorem rdB_ok (n : Nat) (q : List Nat) : rdB n (q, 0) = if q.length < n then ([], q, 2) else (q.take n, q.drop n, 0) := by
  unfold rdB; rw [if_neg (by simp)]
  by_cases h : n ≤ q.length
  · rw [if_pos h, if_neg (by omega)]
  · rw [if_neg h, if_pos (by omega)]
theorem rdV_ok (q : List Nat) : rdV (q, 0) = ((readV q).1, q.drop (readV q).2.1, (readV q).2.2) := by unfold rdV; rw [if_neg (by simp)]
theorem rdT_ok : ∀ (n : Nat) (acc : List (List UInt8)) (q : List Nat), (rdT n acc (q, 0)).2.2 = (tnD n acc q).2.1 ∧ ((tnD n acc q).2.1 = 0 → rdT n acc (q, 0) = ((tnD n acc q).1, (tnD n acc q).2.2, 0))
  | 0, acc, q => ⟨rfl, fun _ => rfl⟩
  | n + 1, acc, q => by
    unfold rdT tnD
    rw [if_neg (by simp)]
    simp only
    by_cases h1 : (blk q 64).2.1 = 0
    · rw [if_neg (by simp [h1]), h1, rdN_ok]
      cases okT acc (ub (blk q 64).1) with
      | true => rw [if_pos rfl, if_pos rfl]; exact rdT_ok n _ _
      | false => rw [if_neg (by decide), if_neg (by decide), rdT_err _ _ (by simp)]; exact ⟨rfl, fun h => by simp at h⟩
    · rw [if_pos h1, rdN_err h1, rdT_err _ _ h1]; exact ⟨rfl, fun h => absurd h h1⟩
theorem cntD_1 {q : List Nat} (h : (readV q).2.2 ≠ 0) : cntD q = (0, (readV q).2.2, q.drop (readV q).2.1) := by unfold cntD; rw [if_pos h]
theorem cntD_2 {q : List Nat} (h : (readV q).2.2 = 0) (h2 : 1048576 < (readV q).1) : cntD q = (0, 4, q.drop (readV q).2.1) := by unfold cntD; rw [if_neg (fun k => k h), if_pos h2]
theorem cntD_3 {q : List Nat} (h : (readV q).2.2 = 0) (h2 : ¬ 1048576 < (readV q).1) : cntD q = ((readV q).1, 0, q.drop (readV q).2.1) := by unfold cntD; rw [if_neg (fun k => k h), if_neg h2]
theorem rdD_ok (q : List Nat) : (rdD (q, 0)).2.2 = (tensD q).2.1 ∧ ((tensD q).2.1 = 0 → rdD (q, 0) = ((tensD q).1, (tensD q).2.2, 0)) := by
  unfold rdD tensD; rw [rdV_ok]
  by_cases h1 : (readV q).2.2 = 0
  · by_cases h2 : 1048576 < (readV q).1
    · rw [cntD_2 h1 h2, h1, rdN_ok, if_neg (by simpa using h2), rdT_err _ _ (by simp), if_pos (by simp)]; exact ⟨rfl, fun h => by simp at h⟩
    · rw [cntD_3 h1 h2, h1, rdN_ok, if_pos (by simpa using h2), if_neg (by simp)]; exact rdT_ok _ _ _
  · rw [cntD_1 h1, rdN_err h1, rdT_err _ _ h1, if_pos h1]; exact ⟨rfl, fun h => absurd h h1⟩
def usD (ts : List (List UInt8)) (es : List Ent) : List Bool := ts.map (fun t => decide (t ∈ es.map (·.1)))
theorem usD_nil (ts : List (List UInt8)) : List.replicate ts.length false = usD ts [] := by
  unfold usD; symm; rw [List.eq_replicate_iff]; exact ⟨by simp, fun b hb => by simp at hb; exact hb.2⟩
theorem usD_snoc {ts : List (List UInt8)} (hn : ts.Nodup) {es : List Ent} {i : Nat} (hi : i < ts.length) (x : Nat) : (usD ts es).set i true = usD ts (es ++ [entD (ts.getD i []) x]) := by
  refine List.ext_getElem (by simp [usD]) (fun j h1 h2 => ?_)
  have hj : j < ts.length := by simpa [usD] using h2
  rw [List.getElem_set]
  have hd : ts.getD i [] = ts[i] := by rw [List.getD_eq_getElem?_getD, List.getElem?_eq_getElem hi]; rfl
  by_cases hij : i = j
  · subst hij; rw [if_pos rfl]; simp [usD, entD, hi]
  · rw [if_neg hij]
    have hne : ts[j] ≠ ts[i] := fun h => hij ((List.getElem_inj hn).1 h.symm)
    simp only [usD, List.getElem_map, List.map_append, List.map_cons, List.map_nil, List.mem_append, List.mem_singleton, entD, hd]
    rw [decide_eq_decide]
    exact ⟨.inl, fun h => h.resolve_right hne⟩
theorem rdE_ok {ts : List (List UInt8)} (hn : ts.Nodup) : ∀ (n : Nat) (es : List Ent) (q : List Nat), (rdE ts n (usD ts es) es (q, 0)).2.2.2 = (enD ts n es q).2.1 ∧ ((enD ts n es q).2.1 = 0 → rdE ts n (usD ts es) es (q, 0) = (usD ts (enD ts n es q).1, (enD ts n es q).1, (enD ts n es q).2.2, 0))
  | 0, es, q => ⟨rfl, fun _ => rfl⟩
  | n + 1, es, q => by
    have bad : ∀ {e : Int} {q' : List Nat} (h2 : rdE2 ts (q, 0) = (q', e)) (h : e ≠ 0), rdE ts (n + 1) (usD ts es) es (q, 0) = (usD ts es, es, (q', e)) := fun {e q'} h2 h => by
      unfold rdE; rw [if_neg (by simp), h2, if_neg h, rdE_err _ _ _ _ h]
    by_cases h1 : (readV q).2.2 = 0
    rotate_left
    · have e1 : rdE1 ts (q, 0) = (q.drop (readV q).2.1, (readV q).2.2) := by unfold rdE1; rw [rdV_ok]; exact rdN_err h1
      have e2 : rdE2 ts (q, 0) = (q.drop (readV q).2.1, (readV q).2.2) := by unfold rdE2; rw [e1, rdB_err h1]; exact rdN_err h1
      rw [bad e2 h1]; unfold enD; rw [if_pos h1]; exact ⟨rfl, fun h => absurd h h1⟩
    have e1 : rdE1 ts (q, 0) = if (readV q).1 < ts.length then (q.drop (readV q).2.1, 0) else (q.drop (readV q).2.1, 3) := by
      unfold rdE1; rw [rdV_ok, h1]; simp only; rw [rdN_ok]; simp
    unfold enD
    rw [if_neg (by simp [h1])]
    by_cases h2 : (readV q).1 < ts.length
    rotate_left
    · rw [if_neg h2] at e1
      have e2 : rdE2 ts (q, 0) = (q.drop (readV q).2.1, 3) := by unfold rdE2; rw [e1, rdB_err (by simp)]; exact rdN_err (by simp)
      rw [bad e2 (by simp), if_pos (by omega)]; exact ⟨rfl, fun h => by simp at h⟩
    rw [if_pos h2] at e1
    rw [if_neg (by omega)]
    by_cases h3 : (q.drop (readV q).2.1).length < 1
    · have e2 : rdE2 ts (q, 0) = (q.drop (readV q).2.1, 2) := by unfold rdE2; rw [e1, rdB_ok, if_pos h3]; exact rdN_err (by simp)
      rw [bad e2 (by simp), if_pos h3]; exact ⟨rfl, fun h => by simp at h⟩
    rw [if_neg h3]
    obtain ⟨x, r, hr⟩ : ∃ x r, q.drop (readV q).2.1 = x :: r := by
      cases h : q.drop (readV q).2.1 with
      | nil => rw [h] at h3; simp at h3
      | cons x r => exact ⟨x, r, rfl⟩
    rw [hr] at e1 h3 ⊢
    have hb : rdB 1 (rdE1 ts (q, 0)) = ([x], r, 0) := by rw [e1, rdB_ok, if_neg h3]; rfl
    simp only [List.headD_cons, List.drop_succ_cons, List.drop_zero]
    have e2 : rdE2 ts (q, 0) = if 8 < x then (r, 3) else (r, 0) := by
      unfold rdE2; rw [hb]; simp only; rw [rdN_ok, okOne_one]
      by_cases h8 : 8 < x
      · rw [if_pos h8, decide_eq_false (by omega : ¬ x ≤ 8)]; rfl
      · rw [if_neg h8, decide_eq_true (by omega : x ≤ 8)]; rfl
    by_cases h8 : 8 < x
    · rw [if_pos h8] at e2 ⊢
      rw [bad e2 (by simp)]; exact ⟨rfl, fun h => by simp at h⟩
    rw [if_neg h8] at e2 ⊢
    have hs : rdE ts (n + 1) (usD ts es) es (q, 0) = rdE ts n (usD ts (es ++ [entD (ts.getD (readV q).1 []) x])) (es ++ [entD (ts.getD (readV q).1 []) x]) (r, 0) := by
      conv => lhs; unfold rdE
      rw [if_neg (by simp), e2, if_pos rfl, hb, rdV_ok]
      simp only [List.headD_cons]
      rw [usD_snoc hn h2]
    rw [hs]
    exact rdE_ok hn n _ r
theorem rdEs_ok {ts : List (List UInt8)} (hn : ts.Nodup) (q : List Nat) : (rdEs ts (q, 0)).2.2.2 = (entsD ts q).2.1 ∧ ((entsD ts q).2.1 = 0 → rdEs ts (q, 0) = (usD ts (entsD ts q).1, (entsD ts q).1, (entsD ts q).2.2, 0)) := by
  unfold rdEs entsD; rw [rdV_ok, usD_nil]
  by_cases h1 : (readV q).2.2 = 0
  · by_cases h2 : 1048576 < (readV q).1
    · rw [cntD_2 h1 h2, h1, rdN_ok, if_neg (by simpa using h2), rdE_err _ _ _ _ (by simp), if_pos (by simp)]; exact ⟨rfl, fun h => by simp at h⟩
    · rw [cntD_3 h1 h2, h1, rdN_ok, if_pos (by simpa using h2), if_neg (by simp)]; exact rdE_ok hn _ _ _
  · rw [cntD_1 h1, rdN_err h1, rdE_err _ _ _ _ h1, if_pos h1]; exact ⟨rfl, fun h => absurd h h1⟩
theorem usD_all {ts : List (List UInt8)} (hs : ts.Pairwise (· < ·)) {es : List Ent} (he : ∀ e ∈ es, e.1 ∈ ts) : (usD ts es).all id = decide ((dirS es).length = ts.length) := by
  rw [Bool.eq_iff_iff, decide_eq_true_iff]
  constructor
  · intro h
    congr 1
    refine sorted_ext (dirS_sorted es) hs (fun x => ?_)
    rw [dirS_mem]
    constructor
    · rintro ⟨e, h1, rfl⟩; exact he e h1
    · intro hx
      have := List.all_eq_true.1 h _ (List.mem_map.2 ⟨x, hx, rfl⟩)
      simp only [id, decide_eq_true_eq, List.mem_map] at this
      exact this
  · intro h
    have hd := dirS_all hs he h
    rw [List.all_eq_true]
    intro u hu
    obtain ⟨t, ht, rfl⟩ := List.mem_map.1 hu
    rw [← hd, dirS_mem] at ht
    simp only [id, decide_eq_true_eq, List.mem_map]
    exact ht
theorem refD5_ok {v : Nat} {p : List Nat} {ts : List (List UInt8)} (hs : ts.Pairwise (· < ·)) {es : List Ent} (he : ∀ e ∈ es, e.1 ∈ ts) (q : List Nat) : refD5 v p (usD ts es) es (q, 0) = decM5 v p ts es q := by
  unfold refD5 decM5
  rw [rdB_ok]
  by_cases h1 : q.length < 32
  · rw [if_pos h1, if_pos h1, rdN_err (by simp), rdU_err _ (by simp), if_pos (by simp)]
  rw [if_neg h1, if_neg h1, rdN_ok]
  by_cases h2 : q.drop 32 = []
  · have h2' : decide ((q.drop 32).length = 0) = true := by rw [h2]; rfl
    simp only [h2', if_true]
    rw [if_neg (not_not_intro h2), rdU_ok, usD_all hs he]
    by_cases h3 : (dirS es).length = ts.length
    · rw [decide_eq_true h3]; simp only [if_true]; rw [if_neg (by simp), if_neg (not_not_intro h3)]
    · rw [decide_eq_false h3]; simp only [Bool.false_eq_true, if_false]; rw [if_pos (by simp), if_pos h3]
  · have h2' : decide ((q.drop 32).length = 0) = false := decide_eq_false (fun h => h2 (List.eq_nil_of_length_eq_zero h))
    simp only [h2', Bool.false_eq_true, if_false]
    rw [if_pos h2, rdU_err _ (by simp), if_pos (by simp)]
theorem refD4_ok {v : Nat} {p : List Nat} {ts : List (List UInt8)} (hs : ts.Pairwise (· < ·)) {q : List Nat} (hq : ∀ x ∈ q, x < 256) : refD4 v p ts (q, 0) = decM4 v p ts q := by
  obtain ⟨h1, h2⟩ := rdEs_ok (pw_nodup hs) q
  unfold refD4 decM4
  by_cases h : (entsD ts q).2.1 = 0
  · rw [if_neg (by simp [h]), h2 h]
    exact refD5_ok hs (fun e he => ((entsD_inv (pw_nodup hs) hq h).2 e he).1) _
  · rw [if_pos h, refD5_err (by rw [h1]; exact h), h1]
theorem refD3_ok {v : Nat} {p : List Nat} {q : List Nat} (hq : ∀ x ∈ q, x < 256) : refD3 v p (q, 0) = decM3 v p q := by
  obtain ⟨h1, h2⟩ := rdD_ok q
  unfold refD3 decM3
  by_cases h : (tensD q).2.1 = 0
  · rw [if_neg (by simp [h]), h2 h]
    exact refD4_ok (tensD_inv hq h).2.1 (tensD_byte hq)
  · rw [if_pos h, refD4_err (by rw [h1]; exact h), h1]
theorem refD2_ok {v : Nat} {q : List Nat} (hq : ∀ x ∈ q, x < 256) : refD2 v (q, 0) = decM2 v q := by
  unfold refD2 decM2; rw [rdB_ok]
  split
  · exact refD3_err (by simp)
  · exact refD3_ok (fun x hx => hq x (List.mem_of_mem_drop hx))
theorem refD1_ok {q : List Nat} (hq : ∀ x ∈ q, x < 256) : refD1 (q, 0) = decM1 q := by
  unfold refD1 decM1; rw [rdB_ok]
  split
  · exact refD2_err (by simp [rdN_err])
  · simp only
    rw [rdN_ok]
    by_cases h : beN (q.take 8) = 18446744073709551615
    · rw [if_pos h, if_neg (by simp [h])]; exact refD2_err (by simp)
    · rw [if_neg h, if_pos (by simpa using h)]; exact refD2_ok (fun x hx => hq x (List.mem_of_mem_drop hx))
theorem refD_dec {b : List Nat} (hb : ∀ x ∈ b, x < 256) : refD b = decM b := by
  unfold refD decM; rw [rdB_ok]
  split
  · rw [rdN_err (by simp)]; exact refD1_err (by simp)
  · simp only
    rw [rdN_ok]
    by_cases h : b.take 4 = [67, 83, 75, 49]
    · rw [show (b.take 4 == [67, 83, 75, 49]) = true by rw [h]; rfl, if_pos rfl, if_neg (not_not_intro h)]; exact refD1_ok (fun x hx => hb x (List.mem_of_mem_drop hx))
    · rw [show (b.take 4 == [67, 83, 75, 49]) = false from beq_eq_false_iff_ne.2 h, if_pos h]; simp only [Bool.false_eq_true, if_false]; exact refD1_err (s := (b.drop 4, 3)) (by simp)
theorem rdN_zero {ok : Bool} {e : Int} {s : RdS} (he : e ≠ 0) (h : (rdN ok e s).2 = 0) : s.2 = 0 ∧ ok = true := by
  obtain ⟨q, x⟩ := s
  by_cases hx : x = 0
  · subst hx
    rw [rdN_ok] at h
    cases ok with
    | true => exact ⟨rfl, rfl⟩
    | false => exact absurd h he
  · rw [rdN_err (s := (q, x)) hx] at h; exact absurd h hx
theorem rdB_zero {n : Nat} {s : RdS} (h : (rdB n s).2.2 = 0) : s.2 = 0 := by
  unfold rdB at h
  split at h
  · rename_i h1; exact absurd h h1
  · rename_i h1; exact Classical.byContradiction h1
theorem rdE2_zero {ts : List (List UInt8)} {s : RdS} (h : (rdE2 ts s).2 = 0) : (rdV s).1 < ts.length ∧ okOne (rdB 1 (rdE1 ts s)).1 = true := by
  obtain ⟨h1, h2⟩ := rdN_zero (by decide) h
  obtain ⟨h3, h4⟩ := rdN_zero (by decide) (rdB_zero h1)
  exact ⟨of_decide_eq_true h4, h2⟩
def bools (us : List Bool) : List PV := us.map .bool
theorem bools_set (us : List Bool) (i : Nat) (b : Bool) : (bools us).set i (.bool b) = bools (us.set i b) := by unfold bools; rw [List.map_set]
theorem bools_get {us : List Bool} {i : Nat} {b : Bool} (h : us[i]? = some b) : (bools us)[i]? = some (.bool b) := by unfold bools; rw [List.getElem?_map, h]; rfl
theorem bools_rep (n : Nat) (b : Bool) : List.replicate n (PV.bool b) = bools (List.replicate n b) := by unfold bools; rw [List.map_replicate]
theorem bools_len (us : List Bool) : (bools us).length = us.length := by unfold bools; rw [List.length_map]
theorem rdU_le {us : List Bool} {s : RdS} {i : Nat} (h : us.length ≤ i) : rdU (us.drop i) s = s := by rw [List.drop_eq_nil_of_le h]; rfl
theorem rdU_at {us : List Bool} {s : RdS} {i : Nat} {b : Bool} (h : us[i]? = some b) : rdU (us.drop i) s = rdU (us.drop (i + 1)) (rdN b 3 s) := by
  obtain ⟨hi, rfl⟩ := List.getElem?_eq_some_iff.1 h
  rw [List.drop_eq_getElem_cons hi]; rfl
end Go.Ck

set_option linter.unusedVariables false
set_option maxRecDepth 100000
set_option maxHeartbeats 400000
namespace Go.Ck
open Go.Proofs
abbrev rdO (s : RdS) : List (Nat × HO) := [(1000, .cells 72 [.pv (.sl 1 (bytes s.1)), .pv (.int .i64 s.2)])]
attribute [go_sem] rdO
theorem rdB_fn (s : RdS) (n : Nat) (hn : n < 2 ^ 63) (hl : s.1.length ≤ room) : Fn Tryz.prog 51 (rdO s) [.ptr 1000 0, .pv (.int .i64 n)]
    (fun rs H' => rs = [.pv (.sl 1 (bytes (rdB n s).1))] ∧ H' = rdO (rdB n s).2) := by
  obtain ⟨q, e⟩ := s
  refine Fn.of_body (fn := Tryz.f51) (n := 32) (res := [.tmp 4]) (by kernel_rfl) rfl rfl rfl rfl rfl (fun C => ?_)
  refine AW.go ?_
  refine AW.cond rfl (fun hc => ?_) (fun hc => ?_)
  · have he : e ≠ 0 := by simpa using hc
    rw [rdB_err (s := (q, e)) he]
    refine AW.go ?_
    refine AW.finE (.lend rfl co_5 .nil) rfl
  have he : e = 0 := by simpa using hc
  subst he
  unfold rdB
  rw [if_neg (by simp)]
  refine AW.go ?_
  refine AW.callE (fun _ => 0) (refBytes_fn q n hn hl) (.pv _ (.pv _ .nil)) ?_
  by_cases hq : n ≤ q.length
  · simp only [if_pos hq]
    refine AW.go ?_
    refine AW.finE (.lend rfl co_5 .nil) rfl
  · simp only [if_neg hq]
    refine AW.go ?_
    refine AW.finE (.lend rfl co_5 .nil) rfl
theorem rdN_fn (s : RdS) (ok : Bool) (x : Int) : Fn Tryz.prog 52 (rdO s) [.ptr 1000 0, .pv (.bool ok), .pv (.int .i64 x)]
    (fun rs H' => rs = [] ∧ H' = rdO (rdN ok x s)) := by
  obtain ⟨q, e⟩ := s
  refine Fn.of_body (fn := Tryz.f52) (n := 19) (res := []) (by kernel_rfl) rfl rfl rfl rfl rfl (fun C => ?_)
  by_cases he : e = 0
  · subst he
    have g0 : ((0 : Int) == 0) = true := rfl
    rw [rdN_ok]
    cases ok with
    | true =>
      refine AW.gg ?_ (by simp only [go_sem, ↓reduceIte, g0] <;> rfl)
      refine AW.condF rfl ?_
      refine AW.go ?_
      refine AW.finE .nil rfl
    | false =>
      refine AW.gg ?_ (by simp only [go_sem, ↓reduceIte, g0] <;> rfl)
      refine AW.condT rfl ?_
      refine AW.go ?_
      refine AW.finE .nil rfl
  · have g0 : (e == 0) = false := by rw [beq_eq_false_iff_ne]; exact he
    rw [rdN_err (s := (q, e)) he]
    refine AW.gg ?_ (by simp only [go_sem, ↓reduceIte, g0] <;> rfl)
    refine AW.condF rfl ?_
    refine AW.go ?_
    refine AW.finE .nil rfl
theorem rdV_fn (s : RdS) (hl : s.1.length ≤ room) (hb : ∀ x ∈ s.1, x < 256) : Fn Tryz.prog 54 (rdO s) [.ptr 1000 0]
    (fun rs H' => rs = [.pv (.int .u64 (rdV s).1)] ∧ H' = rdO (rdV s).2) := by
  obtain ⟨q, e⟩ := s
  refine Fn.of_body (fn := Tryz.f54) (n := 29) (res := [.tmp 2]) (by kernel_rfl) rfl rfl rfl rfl rfl (fun C => ?_)
  refine AW.go ?_
  refine AW.cond rfl (fun hc => ?_) (fun hc => ?_)
  · have he : e ≠ 0 := by simpa using hc
    rw [rdV_err (s := (q, e)) he]
    refine AW.go ?_
    refine AW.finE (.pv _ .nil) rfl
  have he : e = 0 := by simpa using hc
  subst he
  rw [rdV_ok]
  refine AW.go ?_
  refine AW.callE (fun _ => 0) (refVarint_fn q hl hb) (.pv _ .nil) ?_
  refine AW.go ?_
  refine AW.finE (.pv _ .nil) rfl
theorem rdB_len {n : Nat} {s : RdS} : (rdB n s).2.1.length ≤ s.1.length := by
  unfold rdB; split
  · exact Nat.le_refl _
  · split
    · simp only [List.length_drop]; omega
    · exact Nat.le_refl _
theorem rdB_byte {n : Nat} {s : RdS} (h : ∀ x ∈ s.1, x < 256) : (∀ x ∈ (rdB n s).2.1, x < 256) ∧ ∀ x ∈ (rdB n s).1, x < 256 := by
  unfold rdB; split
  · exact ⟨h, by simp⟩
  · split
    · exact ⟨fun x hx => h x (List.mem_of_mem_drop hx), fun x hx => h x (List.mem_of_mem_take hx)⟩
    · exact ⟨h, by simp⟩
theorem rdB_take {n : Nat} {s : RdS} : (rdB n s).1.length ≤ n := by
  unfold rdB; split
  · simp
  · split
    · rw [List.length_take]; omega
    · simp
theorem rdN_len {ok : Bool} {e : Int} {s : RdS} : (rdN ok e s).1 = s.1 := by
  unfold rdN; split <;> rfl
theorem rdV_len {s : RdS} : (rdV s).2.1.length ≤ s.1.length := by
  unfold rdV; split
  · exact Nat.le_refl _
  · simp only [List.length_drop]; omega
theorem rdV_byte {s : RdS} (h : ∀ x ∈ s.1, x < 256) : (∀ x ∈ (rdV s).2.1, x < 256) ∧ (rdV s).1 < 2 ^ 64 := by
  unfold rdV; split
  · exact ⟨h, Nat.two_pow_pos 64⟩
  · exact ⟨fun x hx => h x (List.mem_of_mem_drop hx), readV_lt h⟩
theorem rdT_le {n : Nat} {acc : List (List UInt8)} {s : RdS} (hn : n ≤ 0 ∨ s.2 ≠ 0) : rdT n acc s = (acc, s) := by
  rcases hn with h | h
  · obtain rfl : n = 0 := by omega
    rfl
  · exact rdT_err n acc h
theorem rdD_fn (s : RdS) (hl : s.1.length ≤ 2 ^ 40) (hb : ∀ x ∈ s.1, x < 256) : Fn Tryz.prog 53 (rdO s) [.ptr 1000 0]
    (fun rs H' => rs = [.pv (.sl 1 (strs (rdD s).1))] ∧ H' = rdO (rdD s).2) := by
  refine Fn.of_body (fn := Tryz.f53) (n := 66) (res := [.tmp 2]) (by kernel_rfl) rfl rfl rfl rfl rfl (fun C => ?_)
  have hr : room = 140737488355328 := rfl
  have h1 := rdV_len (s := s)
  obtain ⟨h2, h3⟩ := rdV_byte hb
  refine AW.go ?_
  refine AW.callE id (rdV_fn s (by omega) hb) (.ptr rfl .nil) ?_
  have e0 : rdD s = rdT (rdV s).1 [] (rdN (decide ((rdV s).1 ≤ 1048576)) 4 (rdV s).2) := rfl
  rw [e0]
  clear e0
  generalize rdV s = V at *
  obtain ⟨n, s1⟩ := V
  simp only at h1 h2 h3 ⊢
  have d1 : decide ((n : Int) ≤ 1048576) = decide (n ≤ 1048576) := by rw [Bool.eq_iff_iff]; simp; omega
  refine AW.go ?_ (by simp only [go_sem, ↓reduceIte, d1] <;> rfl)
  refine AW.callE id (rdN_fn s1 (decide (n ≤ 1048576)) 4) (.ptr rfl (.pv _ (.pv _ .nil))) ?_
  have h4 : (rdN (decide (n ≤ 1048576)) 4 s1).2 = 0 → n ≤ 1048576 := fun h => by
    by_cases hn : n ≤ 1048576
    · exact hn
    · unfold rdN at h
      rw [decide_eq_false hn] at h
      split at h
      · simp at h
      · rename_i h5; exact absurd ⟨h, rfl⟩ h5
  have h5 : (rdN (decide (n ≤ 1048576)) 4 s1).1.length ≤ s1.1.length := by rw [rdN_len]; exact Nat.le_refl _
  have h6 : ∀ x ∈ (rdN (decide (n ≤ 1048576)) 4 s1).1, x < 256 := by rw [rdN_len]; exact h2
  generalize rdN (decide (n ≤ 1048576)) 4 s1 = s2 at *
  refine AW.go ?_
  refine AW.loopS (fun a : List (List UInt8) × RdS => ⟨66, [(5, .pv (.int .u64 a.1.length)), (3, .pv (.int .u64 n)), (0, .ptr 1000 0), (4, .own 9 (strs a.1))], [(1000, .cells 72 [.pv (.sl 1 (bytes a.2.1)), .pv (.int .i64 a.2.2)])]⟩) (fun a => a.1.length ≤ n ∧ rdT (n - a.1.length) a.1 a.2 = rdT n [] s2 ∧ (∀ x ∈ a.2.1, x < 256) ∧ a.2.1.length ≤ s2.1.length ∧ (a.2.2 = 0 → n ≤ 1048576)) (fun a => n - a.1.length) [5, 3, 0, 4] [1000] ([], s2) ⟨Nat.zero_le _, rfl, h6, Nat.le_refl _, h4⟩ ?_
  rintro ⟨acc, ⟨q, e⟩⟩ ⟨hi, htn, hqb, hql, hn⟩ K hK
  simp only at hi htn hqb hql hn
  by_cases hc : acc.length < n ∧ e = 0
  · obtain ⟨hlt, he⟩ := hc
    subst he
    have hn := hn rfl
    obtain ⟨m, hm⟩ : ∃ m, n - acc.length = m + 1 := ⟨n - acc.length - 1, by omega⟩
    have e0 : rdT (m + 1) acc (q, 0) = rdT m (acc ++ [ub (blk q 64).1]) (rdN (okT acc (ub (blk q 64).1)) 3 ((blk q 64).2.2, (blk q 64).2.1)) := by conv => lhs; unfold rdT; rw [if_neg (by simp)]
    rw [hm, e0] at htn
    clear e0
    have d1 : decide ((acc.length : Int) < (n : Int)) = true := decide_eq_true (by omega)
    have d1' : decide (acc.length < n) = true := decide_eq_true (by omega)
    have g0 : ((0 : Int) == 0) = true := rfl
    obtain ⟨hbb, hrb, _, hrl⟩ := blk_byte (m := 64) hqb
    refine AW.gg ?_ (by simp only [go_sem, ↓reduceIte, g0, d1, d1'] <;> rfl)
    refine AW.condT rfl ?_
    refine AW.go ?_
    refine AW.callE (fun _ => 0) (refBlock_fn q 64 (by decide) (by omega) hqb) (.pv _ (.pv _ .nil)) ?_
    generalize blk q 64 = B at *
    obtain ⟨b, e, r⟩ := B
    simp only at htn hbb hrb hrl
    have r1 : ((acc.length + 1) * 16 ≤ room) = True := eq_true (by omega)
    have r2 : (acc.length + 1 ≤ room) = True := eq_true (by omega)
    have ei : IntKind.u64.wrap ((acc.length : Int) + 1) = ((acc.length + 1 : Nat) : Int) := wrap_u64_lt (n := acc.length + 1) (by omega)
    have hsn := strs_snoc acc (ub b)
    have hlen : (acc ++ [ub b]).length = acc.length + 1 := by simp
    refine AW.go ?_
    refine AW.freeze (p := .slot 6) (by simp only [go_sem, ↓reduceIte, freeze, freezeO] <;> rfl) ?_
    refine via (T := ?Tok) (fun hT => ?_) ?_; rotate_left
    · by_cases hA : acc = []
      · have d0 : decide (acc.length = 0) = true := by rw [hA]; rfl
        have d0' : (((acc.length : Nat) : Int) == 0) = true := by rw [hA]; rfl
        have d0'' : (acc.length == 0) = true := by rw [hA]; rfl
        have hok : okT acc (ub b) = true := by rw [hA]; rfl
        refine AW.srTail 15 mixed (by decide +kernel) ?_ (by simp only [go_sem, ↓reduceIte, d0, d0', d0'', List.take_succ_cons, List.take_zero] <;> rfl)
        refine AW.go ?_
        refine AW.callE id (rdN_fn (r, e) true 3) (.ptr rfl (.pv _ (.pv _ .nil))) ?_
        rw [← hok]
        refine AW.keepB [5, 3, 0, 4, 6] [1000] (s' := ⟨66, [(5, .pv (.int .u64 acc.length)), (3, .pv (.int .u64 n)), (0, .ptr 1000 0), (4, .own 9 (strs acc)), (6, .pv (.sl 1 (bytes b)))], [(1000, .cells 72 [.pv (.sl 1 (bytes (rdN (okT acc (ub b)) 3 (r, e)).1)), .pv (.int .i64 (rdN (okT acc (ub b)) 3 (r, e)).2)])]⟩) (by simp only [go_sem, ↓reduceIte]) (by simp only [go_sem, ↓reduceIte] <;> rfl) ?_
        exact hT ()
      · obtain ⟨l, hl⟩ : ∃ l, acc.getLast? = some l := ⟨acc.getLast hA, List.getLast?_eq_some_getLast hA⟩
        have hpos : 0 < acc.length := List.length_pos_iff.2 hA
        have hok := okT_last (ub b) hl
        rw [List.getLast?_eq_getElem?] at hl
        have hg := strs_get hl
        have hll : (acc.length - 1 < acc.length) = True := eq_true (by omega)
        have ej : IntKind.i64.wrap ((acc.length : Int) - 1) = ((acc.length - 1 : Nat) : Int) := by rw [wrap_i64_of (by omega) (by omega)]; omega
        have d0 : decide (acc.length = 0) = false := decide_eq_false (by omega)
        have d0' : (((acc.length : Nat) : Int) == 0) = false := by rw [beq_eq_false_iff_ne]; omega
        have d0'' : (acc.length == 0) = false := by rw [beq_eq_false_iff_ne]; omega
        have hbl : Op.bytesLess l (ub b) = okT acc (ub b) := by rw [bytesLess_eq, hok]
        refine AW.srTail 15 mixed (by decide +kernel) ?_ (by simp only [go_sem, ↓reduceIte, d0, d0', d0'', ej, hg, hll, numsOf_byt, ofNums_ub, hbl, List.take_succ_cons, List.take_zero] <;> rfl)
        refine AW.go ?_
        refine AW.callE id (rdN_fn (r, e) (okT acc (ub b)) 3) (.ptr rfl (.pv _ (.pv _ .nil))) ?_
        refine AW.keepB [5, 3, 0, 4, 6] [1000] (s' := ⟨66, [(5, .pv (.int .u64 acc.length)), (3, .pv (.int .u64 n)), (0, .ptr 1000 0), (4, .own 9 (strs acc)), (6, .pv (.sl 1 (bytes b)))], [(1000, .cells 72 [.pv (.sl 1 (bytes (rdN (okT acc (ub b)) 3 (r, e)).1)), .pv (.int .i64 (rdN (okT acc (ub b)) 3 (r, e)).2)])]⟩) (by simp only [go_sem, ↓reduceIte]) (by simp only [go_sem, ↓reduceIte] <;> rfl) ?_
        exact hT ()
    have hr1 : (rdN (okT acc (ub b)) 3 (r, e)).1 = r := rdN_len
    generalize rdN (okT acc (ub b)) 3 (r, e) = s3 at *
    refine AW.go ?_ (by simp only [go_sem, ↓reduceIte, numsOf_byt, ofNums_ub, r1, r2, ei, hsn, List.length_cons, List.length_nil, Nat.zero_add] <;> rfl)
    refine AW.again hK (acc ++ [ub b], s3) ⟨by rw [hlen]; omega, ?_, by rw [hr1]; exact hrb, by rw [hr1]; omega, fun _ => hn⟩ (by simp only [hlen]; omega) (hs := by simp only [go_sem, ↓reduceIte, hlen] <;> rfl)
    rw [← htn]
    simp only [hlen]
    congr 1
    omega
  have hfin : rdT n [] s2 = (acc, (q, e)) := by
    rw [← htn]; exact rdT_le (by by_cases h : e = 0; exact .inl (by have := fun k => hc ⟨k, h⟩; omega); exact .inr h)
  rw [hfin]
  have hd : (decide ((acc.length : Int) < (n : Int)) && (e == 0)) = false := by
    by_cases h : acc.length < n
    · rw [Bool.and_eq_false_iff]; exact .inr (beq_eq_false_iff_ne.2 (fun k => hc ⟨h, k⟩))
    · rw [Bool.and_eq_false_iff]; exact .inl (decide_eq_false (by omega))
  refine via (T := ?Tend) (fun hT => ?_) ?_; rotate_left
  · by_cases hlt : acc.length < n
    · have d1 : decide ((acc.length : Int) < (n : Int)) = true := decide_eq_true (by omega)
      have d1' : decide (acc.length < n) = true := decide_eq_true (by omega)
      have g0 : (e == 0) = false := beq_eq_false_iff_ne.2 (fun k => hc ⟨hlt, k⟩)
      refine AW.gg ?_ (by simp only [go_sem, ↓reduceIte, g0, d1, d1'] <;> rfl)
      refine AW.keepB [24, 4] [1000] (s' := ⟨66, [(24, .pv (.bool false)), (4, .own 9 (strs acc))], [(1000, .cells 72 [.pv (.sl 1 (bytes q)), .pv (.int .i64 e)])]⟩) (by simp only [go_sem, ↓reduceIte]) (by simp only [go_sem, ↓reduceIte] <;> rfl) ?_
      exact hT ()
    · have d1 : decide ((acc.length : Int) < (n : Int)) = false := decide_eq_false (by omega)
      have d1' : decide (acc.length < n) = false := decide_eq_false (by omega)
      refine AW.gg ?_ (by simp only [go_sem, ↓reduceIte, d1, d1'] <;> rfl)
      refine AW.keepB [24, 4] [1000] (s' := ⟨66, [(24, .pv (.bool false)), (4, .own 9 (strs acc))], [(1000, .cells 72 [.pv (.sl 1 (bytes q)), .pv (.int .i64 e)])]⟩) (by simp only [go_sem, ↓reduceIte]) (by simp only [go_sem, ↓reduceIte] <;> rfl) ?_
      exact hT ()
  refine AW.condF rfl ?_
  refine AW.freeze (p := .slot 4) (by simp only [go_sem, ↓reduceIte, freeze, freezeO] <;> rfl) ?_
  refine AW.go ?_
  refine AW.finE (.pv _ .nil) rfl
theorem rdT_both : ∀ (n : Nat) (acc : List (List UInt8)) (s : RdS), (∀ x ∈ s.1, x < 256) → (rdT n acc s).2.1.length ≤ s.1.length ∧ (∀ x ∈ (rdT n acc s).2.1, x < 256) ∧ (rdT n acc s).1.length ≤ acc.length + n
  | 0, acc, s, h => ⟨Nat.le_refl _, h, Nat.le_refl _⟩
  | n + 1, acc, s, h => by
    obtain ⟨h1, h2, h3, h4⟩ := blk_byte (m := 64) h
    unfold rdT
    split
    · exact ⟨Nat.le_refl _, h, Nat.le_add_right _ _⟩
    · have hr := rdN_len (ok := okT acc (ub (blk s.1 64).1)) (e := 3) (s := ((blk s.1 64).2.2, (blk s.1 64).2.1))
      obtain ⟨k1, k2, k3⟩ := rdT_both n (acc ++ [ub (blk s.1 64).1]) (rdN (okT acc (ub (blk s.1 64).1)) 3 ((blk s.1 64).2.2, (blk s.1 64).2.1)) (by rw [hr]; exact h2)
      rw [hr] at k1
      rw [List.length_append, List.length_singleton] at k3
      simp only at k1
      exact ⟨by omega, k2, by omega⟩
theorem rdD_len (s : RdS) (h : ∀ x ∈ s.1, x < 256) : (rdD s).2.1.length ≤ s.1.length := by
  have h1 := (rdV_byte h).1
  have h2 := rdV_len (s := s)
  have h3 := rdN_len (ok := decide ((rdV s).1 ≤ 1048576)) (e := 4) (s := (rdV s).2)
  have := (rdT_both (rdV s).1 [] (rdN (decide ((rdV s).1 ≤ 1048576)) 4 (rdV s).2) (by rw [h3]; exact h1)).1
  rw [h3] at this
  unfold rdD; omega
theorem rdD_byte (s : RdS) (h : ∀ x ∈ s.1, x < 256) : ∀ x ∈ (rdD s).2.1, x < 256 := by
  have h1 := (rdV_byte h).1
  have h3 := rdN_len (ok := decide ((rdV s).1 ≤ 1048576)) (e := 4) (s := (rdV s).2)
  exact (rdT_both (rdV s).1 [] (rdN (decide ((rdV s).1 ≤ 1048576)) 4 (rdV s).2) (by rw [h3]; exact h1)).2.1
theorem rdT_n : ∀ (n : Nat) (acc : List (List UInt8)) (s : RdS), (rdT n acc s).1.length ≤ acc.length + n
  | 0, acc, s => Nat.le_refl _
  | n + 1, acc, s => by
    unfold rdT
    split
    · simp only; omega
    · have := rdT_n n (acc ++ [ub (blk s.1 64).1]) (rdN (okT acc (ub (blk s.1 64).1)) 3 ((blk s.1 64).2.2, (blk s.1 64).2.1))
      rw [List.length_append, List.length_singleton] at this; omega
theorem rdD_n (s : RdS) : (rdD s).1.length ≤ 1048576 := by
  unfold rdD
  by_cases h : (rdN (decide ((rdV s).1 ≤ 1048576)) 4 (rdV s).2).2 = 0
  · have h1 := of_decide_eq_true (rdN_zero (by decide) h).2
    have := rdT_n (rdV s).1 [] (rdN (decide ((rdV s).1 ≤ 1048576)) 4 (rdV s).2)
    simp only [List.length_nil] at this; omega
  · rw [rdT_err _ _ h]; simp
end Go.Ck

set_option linter.unusedVariables false
set_option maxRecDepth 100000
set_option maxHeartbeats 400000
namespace Go.Ck
open Go.Proofs
attribute [go_sem] hO
theorem hSum_fn (h : HS) (m : List Nat) (hc : HC m h) (hm : m.length < 2 ^ 59) : Fn Tryz.prog 85 (hO h) [.ptr 1000 0] (fun rs H' => rs = [.own 5 (bytes (sha m))] ∧ H' = hO h) := by
  refine Fn.of_body (fn := Tryz.f85) (n := 43) (res := [.tmp 2]) (by kernel_rfl) rfl rfl rfl rfl rfl (fun C => ?_)
  have hroom : room = 140737488355328 := rfl
  have hsha : sha m = by8 (wr h (endP m.length)).s := by
    have := (hc.wr (b := endP m.length))
    rw [this.1.s this.2]; rfl
  rw [hsha]
  obtain ⟨hp, hn, _, _, _⟩ := hc
  rw [← hn] at hm ⊢
  unfold hO
  have hlen := hsC_len hp
  have hgn := hsC_n hp
  refine AW.go ?_
  refine AW.condF rfl ?_
  refine AW.goM 9 ?_
  refine AW.loadP (off := 0) (ps := hsP h) rfl rfl ?_ ?_ (hT := by rw [hsP_len hp]; exact tsh_122) (hle := by rw [hsP_len hp, hlen]; decide)
  · rw [hsP_len hp, take_all _ _ hlen]; rfl
  refine AW.goN 1 ?_
  refine AW.storeP (off := 0) (ps := hsP h) rfl rfl rfl ?_ ?_ (hT := by rw [hsP_len hp]; exact tsh_122) (h1 := hsP_one h)
  · rw [hsP_len hp]; decide
  rw [setCells_all _ _ (by rw [List.length_map, hsP_len hp]; rfl), ← hsC_P]
  refine AW.keepB [3] [3, 1000] (by simp only [go_sem, ↓reduceIte]) (by simp only [go_sem, ↓reduceIte] <;> rfl) ?_
  have l73 : (73 < 74) = True := eq_true (by decide)
  refine AW.go ?_ (by simp only [go_sem, ↓reduceIte, hgn, hlen, l73] <;> rfl)
  refine AW.loopS (fun j : Nat => ⟨43, [(4, .pv (.int .i64 h.n)), (3, .ptr 3 0), (5, .own 5 (bytes (128 :: List.replicate j 0)))], [(3, .cells 122 (hsC h)), (1000, .cells 122 (hsC h))]⟩) (fun j => j ≤ zpad h.n) (fun j => zpad h.n - j) [4, 3, 5] [3, 1000] 0 (Nat.zero_le _) ?_
  rintro j hj K hK
  have hzp : zpad h.n = (119 - h.n % 64) % 64 := rfl
  have hql : (128 :: List.replicate j 0).length = j + 1 := by simp
  have hqn : (128 :: List.replicate j 0) ++ [0] = 128 :: List.replicate (j + 1) 0 := by rw [List.replicate_succ']; rfl
  generalize hqq : 128 :: List.replicate j 0 = q at *
  have e1 : IntKind.i64.wrap ((h.n : Int) + ((j + 1 : Nat) : Int)) = ((h.n + (j + 1) : Nat) : Int) := by rw [wrap_i64_of (by omega) (by omega)]; omega
  have e2 : ((h.n + (j + 1) : Nat) : Int).tmod 64 = (((h.n + (j + 1)) % 64 : Nat) : Int) := rfl
  refine AW.go ?_ (by simp only [go_sem, ↓reduceIte, hql, e1, e2] <;> rfl)
  refine AW.cond rfl (fun hc => ?_) (fun hc => ?_)
  · have hne : (h.n + (j + 1)) % 64 ≠ 56 := by
      intro h
      rw [h] at hc
      exact absurd hc (by decide)
    have r1 : q.length + 1 ≤ room := by omega
    have r2 : j + 1 + 1 ≤ room := by omega
    refine AW.go ?_ (by simp only [go_sem, ↓reduceIte, bytes_snoc0, hql, r1, r2] <;> rfl)
    exact AW.again hK (j + 1) (by omega) (by omega) (hs := by simp only [go_sem, ↓reduceIte, hqn] <;> rfl)
  have hjz : j = zpad h.n := by
    have : (h.n + (j + 1)) % 64 = 56 := by
      have h2 : ((((h.n + (j + 1)) % 64 : Nat) : Int) == 56) = true := by simpa [bne] using hc
      have := eq_of_beq h2
      omega
    omega
  subst hjz
  refine AW.go ?_
  have ew : IntKind.u64.wrap (h.n : Int) = (h.n : Int) := wrap_u64_lt (by omega)
  have em : IntKind.u64.wrap ((h.n : Int) * 8) = ((h.n * 8 : Nat) : Int) := by rw [show (h.n : Int) * 8 = ((h.n * 8 : Nat) : Int) by omega]; exact wrap_u64_lt (by omega)
  refine AW.loopS (fun i : Nat => ⟨43, [(4, .pv (.int .i64 h.n)), (3, .ptr 3 0), (6, .pv (.int .i64 (56 - 8 * (i : Int)))), (5, .own 5 (bytes (encE q (h.n * 8) i)))], [(3, .cells 122 (hsC h)), (1000, .cells 122 (hsC h))]⟩) (fun i => i ≤ 8) (fun i => 8 - i) [4, 3, 6, 5] [3, 1000] 0 (Nat.zero_le _) ?_ (hs := by simp only [go_sem, ↓reduceIte, encE0] <;> rfl)
  rintro i hi K2 hK2
  have hel := encE_len q (h.n * 8) i hi
  have r3 : (encE q (h.n * 8) i).length + 1 ≤ room := by omega
  have hcase : i = 8 ∨ i = 0 ∨ i = 1 ∨ i = 2 ∨ i = 3 ∨ i = 4 ∨ i = 5 ∨ i = 6 ∨ i = 7 := by omega
  rcases hcase with rfl | hcase
  · refine AW.go ?_
    refine AW.condF rfl ?_
    have hqe : q ++ be8 (h.n * 8) = endP h.n := by rw [← hqq]; rfl
    rw [encE8, hqe]
    refine AW.go ?_
    have hel2 : h.n + (endP h.n).length < 2 ^ 60 := by rw [endP_len]; omega
    refine AW.callE (args := [.ptr 1000 0, .pv (.sl 1 (bytes (endP h.n)))]) (fun _ => 3) (Write_fn h (endP h.n) hp hel2) (.ptr rfl (.lend rfl co_5 .nil)) ?_
    have hlw : (hsC (wr h (endP h.n))).length = 74 := hsC_len (wr_len hp _)
    have hsw := hsC_s (wr h (endP h.n))
    have l18 : (1 + 8 ≤ 74) = True := eq_true (by decide)
    refine AW.go ?_ (by simp only [go_sem, ↓reduceIte, hlw, hsw, l18] <;> rfl)
    refine AW.callE (fun _ => 0) (bytesW_fn (wr h (endP h.n)).s) (.pv _ .nil) ?_
    refine AW.go ?_
    refine AW.finE (.move rfl .nil) rfl
  generalize h.n * 8 = v at *
  rcases hcase with rfl | rfl | rfl | rfl | rfl | rfl | rfl | rfl
  all_goals
    refine AW.go ?_ (by simp only [go_sem, ↓reduceIte, nc0, nc1, nc2, nc3, nc4, nc5, nc6, nc7, Int.reduceMul, Int.reduceSub] <;> rfl)
    refine AW.condT rfl ?_
    refine AW.go ?_ (by simp only [go_sem, ↓reduceIte, ew, em, bK_56, bK_48, bK_40, bK_32, bK_24, bK_16, bK_8, bK_0, bytes_snoc, encK_0, encK_1, encK_2, encK_3, encK_4, encK_5, encK_6, encK_7, r3, Int.reduceSub, ws48, ws40, ws32, ws24, ws16, ws8, ws0, wsm8] <;> rfl)
    first
      | exact AW.again hK2 1 (by decide) (by decide)
      | exact AW.again hK2 2 (by decide) (by decide)
      | exact AW.again hK2 3 (by decide) (by decide)
      | exact AW.again hK2 4 (by decide) (by decide)
      | exact AW.again hK2 5 (by decide) (by decide)
      | exact AW.again hK2 6 (by decide) (by decide)
      | exact AW.again hK2 7 (by decide) (by decide)
      | exact AW.again hK2 8 (by decide) (by decide)

theorem shaSum_fn (m : List Nat) (hm : m.length < 2 ^ 59) : Fn Tryz.prog 68 [] [.pv (.sl 1 (bytes m))] (fun rs H' => rs = [.own 5 (bytes (sha m))] ∧ H' = []) := by
  refine Fn.of_body (fn := Tryz.f68) (n := 11) (res := [.tmp 2]) (by kernel_rfl) rfl rfl rfl rfl rfl (fun C => ?_)
  refine AW.go ?_
  have h := (HC.zero).wr (b := m)
  refine AW.keepB [6, 7, 3] [5] (by simp only [go_sem, ↓reduceIte]) (s' := ⟨11, [(6, .ptr 5 0), (7, .pv (.sl 1 (bytes m))), (3, .ptr 5 0)], [(5, .cells 122 (hsC h00))]⟩) (by simp only [go_sem, ↓reduceIte] <;> rfl) ?_
  refine AW.callE (fun _ => 5) (Write_fn h00 m rfl (by show 0 + m.length < 2 ^ 60; omega)) (.ptr rfl (.pv _ .nil)) ?_
  refine AW.go ?_
  refine AW.callE (fun _ => 5) (hSum_fn (wr h00 m) m h.1 hm) (.ptr rfl .nil) ?_
  refine AW.go ?_
  refine AW.finE (.move rfl .nil) rfl
end Go.Ck

set_option linter.unusedVariables false
set_option maxRecDepth 100000
set_option maxHeartbeats 400000
namespace Go.Ck
open Go.Proofs
theorem rot13_fn (x : W32) (n : Int) (m : Nat) (hn : n = m) (h0 : 0 < m) (h1 : m < 32) : Fn Tryz.prog 87 [] [.pv (wP x), .pv (.int .u64 n)] (fun rs H' => rs = [.pv (wP (rotW x m))] ∧ H' = []) := by
  subst hn
  refine Fn.of_body (fn := Tryz.f87) (n := 13) (res := [.tmp 4]) (by kernel_rfl) rfl rfl rfl rfl rfl (fun C => ?_)
  have e2 : IntKind.u64.wrap (32 - (m : Int)) = ((32 - m : Nat) : Int) := by rw [IntKind.wrap_u64]; omega
  have s1 := w32_shr x m (by omega)
  have s2 := w32_shl x (32 - m) (by omega)
  have s3 := rotW_ref x m
  unfold wP
  refine AW.go ?_ (by simp only [go_sem, ↓reduceIte, e2, s1, s2, w32_or, s3] <;> rfl)
  refine AW.finE (.pv _ .nil) rfl
theorem const13_fn : Fn Tryz.prog 71 [] [] (fun rs H' => rs = [.pv (.sl 1 (wds ktab)), .own 101 (wds first8.l)] ∧ H' = []) := by
  refine Fn.of_body (fn := Tryz.f71) (n := 8) (res := [.tmp 0, .tmp 1]) (by kernel_rfl) rfl rfl rfl rfl rfl (fun C => ?_)
  have m64 : (64 ≤ maxLen) = True := eq_true (le_maxLen 64)
  have m8 : (8 ≤ maxLen) = True := eq_true (le_maxLen 8)
  refine AW.goM 20 ?_ (by simp only [go_sem, ↓reduceIte, m64, m8] <;> rfl)
  refine AW.freeze (p := .slot 2) (by simp only [go_sem, ↓reduceIte, freeze, freezeO] <;> rfl) ?_
  refine AW.go ?_ (by simp only [go_sem, ↓reduceIte, m64, m8] <;> rfl)
  refine AW.finE (.pv _ (.move rfl .nil)) ?_
  kernel_rfl

theorem padded_fn (m : List Nat) (hm : m.length < 2 ^ 30) : Fn Tryz.prog 72 [] [.pv (.sl 1 (bytes m))] (fun rs H' => rs = [.own 5 (bytes (m ++ endP m.length))] ∧ H' = []) := by
  refine Fn.of_body (fn := Tryz.f72) (n := 36) (res := [.tmp 2]) (by kernel_rfl) rfl rfl rfl rfl rfl (fun C => ?_)
  have hroom : room = 140737488355328 := rfl
  have a1 : m.length ≤ room := by omega
  have a2 : m.length + 1 ≤ room := by omega
  have hb0 : bytes m ++ [.int .u8 128] = bytes (m ++ (128 :: List.replicate 0 0)) := by rw [← bytes_append]; rfl
  refine AW.go ?_ (by simp only [go_sem, ↓reduceIte, a1, a2, le_maxLen0, Nat.zero_mul, Nat.zero_add, hb0, List.nil_append] <;> rfl)
  refine AW.loopS (fun j : Nat => ⟨36, [(0, .pv (.sl 1 (bytes m))), (3, .own 5 (bytes (m ++ (128 :: List.replicate j 0))))], []⟩) (fun j => j ≤ zpad m.length) (fun j => zpad m.length - j) [0, 3] [] 0 (Nat.zero_le _) ?_
  rintro j hj K hK
  have hzp : zpad m.length = (119 - m.length % 64) % 64 := rfl
  have hql : (m ++ (128 :: List.replicate j 0)).length = m.length + (j + 1) := by simp
  have hqn : (m ++ (128 :: List.replicate j 0)) ++ [0] = m ++ (128 :: List.replicate (j + 1) 0) := by rw [List.replicate_succ']; simp
  generalize hqq : m ++ (128 :: List.replicate j 0) = q at *
  have e2 : ((m.length + (j + 1) : Nat) : Int).tmod 64 = (((m.length + (j + 1)) % 64 : Nat) : Int) := rfl
  refine AW.go ?_ (by simp only [go_sem, ↓reduceIte, hql, e2] <;> rfl)
  refine AW.cond rfl (fun hc => ?_) (fun hc => ?_)
  · have hne : (m.length + (j + 1)) % 64 ≠ 56 := by
      intro h
      rw [h] at hc
      exact absurd hc (by decide)
    have r1 : q.length + 1 ≤ room := by omega
    refine AW.go ?_ (by simp only [go_sem, ↓reduceIte, bytes_snoc0, r1] <;> rfl)
    exact AW.again hK (j + 1) (by omega) (by omega) (hs := by simp only [go_sem, ↓reduceIte, hqn] <;> rfl)
  have hjz : j = zpad m.length := by
    have : (m.length + (j + 1)) % 64 = 56 := by
      have h2 : ((((m.length + (j + 1)) % 64 : Nat) : Int) == 56) = true := by simpa [bne] using hc
      have := eq_of_beq h2
      omega
    omega
  subst hjz
  have ew : IntKind.u64.wrap (m.length : Int) = (m.length : Int) := wrap_u64_lt (by omega)
  have em : IntKind.u64.wrap ((m.length : Int) * 8) = ((m.length * 8 : Nat) : Int) := by rw [show (m.length : Int) * 8 = ((m.length * 8 : Nat) : Int) by omega]; exact wrap_u64_lt (by omega)
  refine AW.go ?_ (by simp only [go_sem, ↓reduceIte, ew, em] <;> rfl)
  have hv : m.length * 8 < 2 ^ 33 := by omega
  have hend : q ++ be8 (m.length * 8) = m ++ endP m.length := by rw [← hqq]; simp [endP]
  generalize m.length * 8 = v at *
  refine AW.loopS (fun i : Nat => ⟨36, [(4, .pv (.int .u64 v)), (5, .pv (.int .i64 (7 - (i : Int)))), (3, .own 5 (bytes (encE q v i)))], []⟩) (fun i => i ≤ 8) (fun i => 8 - i) [4, 5, 3] [] 0 (Nat.zero_le _) ?_ (hs := by simp only [go_sem, ↓reduceIte, encE0] <;> rfl)
  rintro i hi K2 hK2
  have hel := encE_len q v i hi
  have r3 : (encE q v i).length + 1 ≤ room := by omega
  have hcase : i = 8 ∨ i = 0 ∨ i = 1 ∨ i = 2 ∨ i = 3 ∨ i = 4 ∨ i = 5 ∨ i = 6 ∨ i = 7 := by omega
  rcases hcase with rfl | hcase
  · refine AW.go ?_
    refine AW.condF rfl ?_
    rw [encE8, hend]
    refine AW.go ?_
    refine AW.finE (.move rfl .nil) rfl
  rcases hcase with rfl | rfl | rfl | rfl | rfl | rfl | rfl | rfl
  all_goals
    refine AW.go ?_ (by simp only [go_sem, ↓reduceIte, nc0, nc1, nc2, nc3, nc4, nc5, nc6, nc7, Int.reduceMul, Int.reduceSub] <;> rfl)
    refine AW.condT rfl ?_
    refine AW.go ?_ (by simp only [go_sem, ↓reduceIte, bK_56, bK_48, bK_40, bK_32, bK_24, bK_16, bK_8, bK_0, bytes_snoc, encK_0, encK_1, encK_2, encK_3, encK_4, encK_5, encK_6, encK_7, r3, Int.reduceSub, Int.reduceMul, Int.reduceAdd, ws48, ws40, ws32, ws24, ws16, ws8, ws0, ws56, wr1, wr2, wr3, wr4, wr5, wr6, wr7, wsm1, wu0, wu8, wu16, wu24, wu32, wu40, wu48, wu56] <;> rfl)
    first
      | exact AW.again hK2 1 (by decide) (by decide)
      | exact AW.again hK2 2 (by decide) (by decide)
      | exact AW.again hK2 3 (by decide) (by decide)
      | exact AW.again hK2 4 (by decide) (by decide)
      | exact AW.again hK2 5 (by decide) (by decide)
      | exact AW.again hK2 6 (by decide) (by decide)
      | exact AW.again hK2 7 (by decide) (by decide)
      | exact AW.again hK2 8 (by decide) (by decide)

theorem words_fn (b : List Nat) (hb : b.length = 64) : Fn Tryz.prog 86 [] [.pv (.sl 1 (bytes b))] (fun rs H' => rs = [.own 101 (wds (sched b))] ∧ H' = []) := by
  refine Fn.of_body (fn := Tryz.f86) (n := 99) (res := [.tmp 2]) (by kernel_rfl) rfl rfl rfl rfl rfl (fun C => ?_)
  have hroom : room = 140737488355328 := rfl
  refine AW.go ?_
  refine AW.loopS (fun i : Nat => ⟨99, [(0, .pv (.sl 1 (bytes b))), (4, .pv (.int .i64 i)), (3, .own 101 (wds (spW b i)))], []⟩) (fun i => i ≤ 16) (fun i => 16 - i) [0, 4, 3] [] 0 (Nat.zero_le _) ?_
  rintro i hi K hK
  have hsl : (spW b i).length = i := spW_len b i
  refine AW.go ?_
  refine AW.cond rfl (fun hc => ?_) (fun hc => ?_)
  · have h16 : i < 16 := by have := of_decide_eq_true hc; omega
    obtain ⟨p, hp⟩ : ∃ p, p = 4 * i := ⟨_, rfl⟩
    obtain ⟨x, y, z, w, qx, qy, qz, qw, hq⟩ := drop4 b p (by omega)
    have hx := bytes_getS qx
    have hy := bytes_getS qy
    have hz := bytes_getS qz
    have hw := bytes_getS qw
    have e1 : IntKind.i64.wrap (4 * (i : Int)) = (p : Int) := by rw [wrap_i64_of (by omega) (by omega)]; omega
    have e2 : IntKind.i64.wrap ((p : Int) + 1) = ((p + 1 : Nat) : Int) := by rw [wrap_i64_of (by omega) (by omega)]; omega
    have e3 : IntKind.i64.wrap ((p : Int) + 2) = ((p + 2 : Nat) : Int) := by rw [wrap_i64_of (by omega) (by omega)]; omega
    have e4 : IntKind.i64.wrap ((p : Int) + 3) = ((p + 3 : Nat) : Int) := by rw [wrap_i64_of (by omega) (by omega)]; omega
    have r1 : ((spW b i).length + 1) * 4 ≤ room := by omega
    have r2 : (spW b i).length + 1 ≤ room := by omega
    have hd4 : spW b i ++ [((BitVec.ofNat 32 x <<< 24) ||| (BitVec.ofNat 32 y <<< 16)) ||| (BitVec.ofNat 32 z <<< 8) ||| BitVec.ofNat 32 w] = spW b (i + 1) := by
      rw [wd4_ref, ← hq, hp]; simp only [spW, h16, if_true]
    refine AW.go ?_
    refine AW.calmS ?_
    refine CK.reads [[], [], [], [16], [15, 17], [18], [19], [20], [], [], [23], [24], [22, 25], [26], [27], [28], [21, 29], [], [], [32], [33], [31, 34], [35], [36], [37], [30, 38], [], [], [41], [42], [40, 43], [44], [45], [39, 46]] ?_ (by simp only [go_sem, ↓reduceIte, e1, e2, e3, e4, hx, hy, hz, hw, hb, wrap_u32w, w32_shl24, w32_shl16, w32_shl8, w32_or] <;> rfl)
    refine CK.list [47] ?_
    refine CK.done (M := 35) 2 mixed ?_
    refine AW.seqs (fuel := 0) (listed' := Array.replicate 37 true) [35, 36] ?_ (by decide +kernel)
    -- 35: t49 := call append(t14, t48)
    -- 36: t3 := = t49
    refine AW.gg ?_ (by simp only [go_sem, ↓reduceIte, wds_snoc, r1, r2, hd4] <;> rfl)
    refine AW.anyDone (by decide +kernel) ?_
    have e6 : IntKind.i64.wrap ((i : Int) + 1) = ((i + 1 : Nat) : Int) := wrap_i64_succ (by omega)
    refine AW.go ?_ (by simp only [go_sem, ↓reduceIte, e6] <;> rfl)
    exact AW.again hK (i + 1) (by omega) (by omega)
  have h16 : i = 16 := by have := of_decide_eq_false hc; omega
  subst h16
  refine AW.go ?_
  refine AW.loopS (fun i : Nat => ⟨99, [(5, .pv (.int .i64 i)), (3, .own 101 (wds (spW b i)))], []⟩) (fun i => 16 ≤ i ∧ i ≤ 64) (fun i => 64 - i) [5, 3] [] 16 (by omega) ?_
  rintro i ⟨h16, h64⟩ K2 hK2
  have hsl : (spW b i).length = i := spW_len b i
  refine AW.go ?_
  refine AW.cond rfl (fun hc => ?_) (fun hc => ?_)
  rotate_left
  · have hge : i = 64 := by have := of_decide_eq_false hc; omega
    subst hge
    refine AW.go ?_
    refine AW.finE (.move rfl .nil) rfl
  have hlt : i < 64 := by have := of_decide_eq_true hc; omega
  obtain ⟨i15, h15⟩ : ∃ k, k = i - 15 := ⟨_, rfl⟩
  obtain ⟨i2, h2⟩ : ∃ k, k = i - 2 := ⟨_, rfl⟩
  obtain ⟨i16, h16'⟩ : ∃ k, k = i - 16 := ⟨_, rfl⟩
  obtain ⟨i7, h7⟩ : ∃ k, k = i - 7 := ⟨_, rfl⟩
  have a15 : IntKind.i64.wrap ((i : Int) - 15) = (i15 : Int) := by rw [wrap_i64_of (by omega) (by omega)]; omega
  have a2 : IntKind.i64.wrap ((i : Int) - 2) = (i2 : Int) := by rw [wrap_i64_of (by omega) (by omega)]; omega
  have a16 : IntKind.i64.wrap ((i : Int) - 16) = (i16 : Int) := by rw [wrap_i64_of (by omega) (by omega)]; omega
  have a7 : IntKind.i64.wrap ((i : Int) - 7) = (i7 : Int) := by rw [wrap_i64_of (by omega) (by omega)]; omega
  have g15 : (wds (spW b i))[i15]? = some (.int .u32 ((wAt (spW b i) i15).toNat : Int)) := wds_get (by omega)
  have g2 : (wds (spW b i))[i2]? = some (.int .u32 ((wAt (spW b i) i2).toNat : Int)) := wds_get (by omega)
  have g16 : (wds (spW b i))[i16]? = some (.int .u32 ((wAt (spW b i) i16).toNat : Int)) := wds_get (by omega)
  have g7 : (wds (spW b i))[i7]? = some (.int .u32 ((wAt (spW b i) i7).toNat : Int)) := wds_get (by omega)
  have hnext : spW b i ++ [(rotW (wAt (spW b i) i2) 17 ^^^ rotW (wAt (spW b i) i2) 19 ^^^ wAt (spW b i) i2 >>> 10) + wAt (spW b i) i7 + (rotW (wAt (spW b i) i15) 7 ^^^ rotW (wAt (spW b i) i15) 18 ^^^ wAt (spW b i) i15 >>> 3) + wAt (spW b i) i16] = spW b (i + 1) := by
    have h0 : ¬ i < 16 := by omega
    rw [nextW_ref]
    simp only [spW, h0, if_false, nextW, sg0, sg1, hsl, h15, h2, h16', h7]
  have r1 : ((spW b i).length + 1) * 4 ≤ room := by omega
  have r2 : (spW b i).length + 1 ≤ room := by omega
  generalize wAt (spW b i) i15 = y at *
  generalize wAt (spW b i) i2 = x at *
  generalize wAt (spW b i) i16 = u at *
  generalize wAt (spW b i) i7 = v at *
  have l15 : (i15 < i) = True := eq_true (by omega)
  have l2 : (i2 < i) = True := eq_true (by omega)
  have l16 : (i16 < i) = True := eq_true (by omega)
  have l7 : (i7 < i) = True := eq_true (by omega)
  refine AW.go ?_ (by simp only [go_sem, ↓reduceIte, a15, a2, g15, g2, hsl, l15, l2] <;> rfl)
  refine AW.callE (fun _ => 0) (rot13_fn x 17 17 rfl (by decide) (by decide)) (.pv _ (.pv _ .nil)) ?_
  refine AW.go ?_
  refine AW.callE (fun _ => 0) (rot13_fn x 19 19 rfl (by decide) (by decide)) (.pv _ (.pv _ .nil)) ?_
  refine AW.go ?_ (by simp only [go_sem, ↓reduceIte, wP, w32_xor, w32_shr10] <;> rfl)
  refine AW.callE (fun _ => 0) (rot13_fn y 7 7 rfl (by decide) (by decide)) (.pv _ (.pv _ .nil)) ?_
  refine AW.go ?_
  refine AW.callE (fun _ => 0) (rot13_fn y 18 18 rfl (by decide) (by decide)) (.pv _ (.pv _ .nil)) ?_
  refine AW.go ?_ (by simp only [go_sem, ↓reduceIte, wP, w32_xor, w32_shr3] <;> rfl)
  refine AW.calmS ?_
  refine CK.reads [[], [], [], [], [83], [82, 84], [85], [81, 86], [], [87, 88], [], [], [91], [90, 92], [93], [89, 94]] ?_ (by simp only [go_sem, ↓reduceIte, a16, a7, g16, g7, w32_add, hsl, l16, l7] <;> rfl)
  refine CK.list [95] ?_
  refine CK.done (M := 17) 2 mixed ?_
  refine AW.seqs (fuel := 0) (listed' := Array.replicate 19 true) [17, 18] ?_ (by decide +kernel)
  -- 17: t97 := call append(t80, t96)
  -- 18: t3 := = t97
  refine AW.gg ?_ (by simp only [go_sem, ↓reduceIte, wds_snoc, r1, r2, hnext] <;> rfl)
  refine AW.anyDone (by decide +kernel) ?_
  have e6 : IntKind.i64.wrap ((i : Int) + 1) = ((i + 1 : Nat) : Int) := wrap_i64_succ (by omega)
  refine AW.go ?_ (by simp only [go_sem, ↓reduceIte, e6] <;> rfl)
  exact AW.again hK2 (i + 1) (by omega) (by omega)
end Go.Ck

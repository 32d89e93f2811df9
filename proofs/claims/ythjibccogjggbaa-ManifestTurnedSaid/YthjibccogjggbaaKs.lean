/- What is proved here: parts of the proofs of this seat's statements (a verified evaluator for calls over pure values, its laws, and contracts of functions). No condition. -/
import Derived.Test.YthjibccogjggbaaKr
set_option linter.all false
set_option linter.unusedVariables false
namespace Go.Ck
structure HS where
  begun : Bool
  s : S8
  part : List Nat
  n : Nat
/-- Its cells. -/
def hsC (h : HS) : List SV := .pv (.bool h.begun) :: (h.s.l.map wP ++ (bytes h.part ++ [PV.int .i64 (h.n : Int)])).map SV.pv
theorem hsC_len {h : HS} (hp : h.part.length = 64) : (hsC h).length = 74 := by
  simp [hsC, bytes_length, hp, S8.l]
theorem hsC_kept (ds os : List Nat) (h : HS) : (hsC h).all (keptV ds os) = true := by
  simp only [hsC, List.all_cons, kept_pv, Bool.and_true]
  simp [keptV, ptsL, hangOn]
theorem hsC_inL (ns : List Nat) (h : HS) : (hsC h).all (inL ns) = true := by
  simp only [hsC, List.all_cons, inL_pv, Bool.and_true]
  simp [inL, ptsL]
attribute [go_sem] hsC_kept hsC_inL
theorem hsC_begun (h : HS) : (hsC h)[0]? = some (.pv (.bool h.begun)) := rfl
theorem hsC_setB (h : HS) (b : Bool) : (hsC h).set 0 (.pv (.bool b)) = hsC { h with begun := b } := rfl
theorem hsC_split {h : HS} (hp : h.part.length = 64) : hsC h = (PV.bool h.begun :: (h.s.l.map wP ++ bytes h.part)).map SV.pv ++ [.pv (.int .i64 (h.n : Int))] := by
  simp [hsC, List.map_append]
theorem hsC_n {h : HS} (hp : h.part.length = 64) : (hsC h)[73]? = some (.pv (.int .i64 (h.n : Int))) := by
  rw [hsC_split hp, List.getElem?_append_right (by simp [bytes_length, hp, S8.l])]
  simp [bytes_length, hp, S8.l]
theorem hsC_setN {h : HS} (hp : h.part.length = 64) (v : Nat) : (hsC h).set 73 (.pv (.int .i64 (v : Int))) = hsC { h with n := v } := by
  rw [hsC_split hp, hsC_split (h := { h with n := v }) hp, List.set_append_right _ _ (by simp [bytes_length, hp, S8.l])]
  simp [bytes_length, hp, S8.l]
theorem hsC_s (h : HS) : allPV (List.take 8 (List.drop 1 (hsC h))) = some (h.s.l.map wP) := by
  have : List.take 8 (List.drop 1 (hsC h)) = (h.s.l.map wP).map SV.pv := by
    simp only [hsC, List.drop_succ_cons, List.drop_zero, List.map_append]
    rw [List.take_append_of_le_length (by simp [S8.l]), List.take_of_length_le (by simp [S8.l])]
  rw [this, allPV_map]
theorem hsC_setS (h : HS) (s : S8) : setCells (hsC h) ((s.l.map wP).map SV.pv) 1 = hsC { h with s := s } := by
  simp only [setCells, hsC, List.length_map]
  simp [S8.l]
theorem hsC_part {h : HS} (hp : h.part.length = 64) : (((hsC h).drop 9).take 64) = (bytes h.part).map SV.pv := by
  have : (hsC h).drop 9 = (bytes h.part ++ [PV.int .i64 (h.n : Int)]).map SV.pv := by simp [hsC, S8.l]
  rw [this, List.map_append, List.take_append_of_le_length (by simp [bytes_length, hp]), List.take_of_length_le (by simp [bytes_length, hp])]
theorem hsC_setP {h : HS} (hp : h.part.length = 64) (r : Nat) (b : List Nat) (hr : r + b.length ≤ 64) : setCells (hsC h) ((bytes b).map SV.pv) (9 + r) = hsC { h with part := h.part.take r ++ b ++ h.part.drop (r + b.length) } := by
  have e1 : hsC h = (PV.bool h.begun :: h.s.l.map wP).map SV.pv ++ ((bytes h.part).map SV.pv ++ [.pv (.int .i64 (h.n : Int))]) := by simp [hsC, List.map_append]
  have e2 : ∀ p : List Nat, hsC { h with part := p } = (PV.bool h.begun :: h.s.l.map wP).map SV.pv ++ ((bytes p).map SV.pv ++ [.pv (.int .i64 (h.n : Int))]) := fun p => by simp [hsC, List.map_append]
  have l9 : ((PV.bool h.begun :: h.s.l.map wP).map SV.pv).length = 9 := by simp [S8.l]
  rw [e1, e2]
  generalize (PV.bool h.begun :: h.s.l.map wP).map SV.pv = A at *
  unfold setCells
  have lb : ((bytes b).map SV.pv).length = b.length := by simp [bytes_length]
  rw [lb]
  rw [List.take_append, List.take_of_length_le (by omega), List.drop_append, List.drop_of_length_le (by omega), l9]
  rw [show 9 + r - 9 = r by omega, show 9 + r + b.length - 9 = r + b.length by omega]
  have lp : ((bytes h.part).map SV.pv).length = 64 := by simp [bytes_length, hp]
  rw [List.take_append_of_le_length (by omega), List.drop_append_of_le_length (by omega)]
  simp only [← List.map_take, ← List.map_drop, bytes_take, bytes_drop, ← bytes_append, List.map_append, List.nil_append, List.append_assoc]

def wrN (h : HS) (b : List Nat) : HS :=
  let k := min b.length (64 - h.n % 64)
  let p := h.part.take (h.n % 64) ++ b.take k ++ h.part.drop (h.n % 64 + k)
  ⟨h.begun, if (h.n + k) % 64 = 0 then thr h.s p else h.s, p, h.n + k⟩
def wrL (h : HS) (b : List Nat) : HS := if hb : b = [] then h else wrL (wrN h b) (b.drop (min b.length (64 - h.n % 64)))
termination_by b.length
decreasing_by
  have h1 : 0 < b.length := List.length_pos_iff.2 hb
  simp only [List.length_drop]
  omega
def wr0 (h : HS) : HS := if h.begun then h else { h with begun := true, s := first8 }
def wr (h : HS) (b : List Nat) : HS := wrL (wr0 h) b
theorem wrL_nil (h : HS) : wrL h [] = h := by rw [wrL]; simp
theorem wrL_step {h : HS} {b : List Nat} (hb : b ≠ []) : wrL h b = wrL (wrN h b) (b.drop (min b.length (64 - h.n % 64))) := by rw [wrL]; simp [hb]
theorem wrN_len {h : HS} (hp : h.part.length = 64) (b : List Nat) : (wrN h b).part.length = 64 := by
  simp only [wrN, List.length_append, List.length_take, List.length_drop, hp]
  omega

theorem fb_lt {s : S8} {l : List Nat} (h : l.length < 64) : fb s l = s := by rw [fb]; simp; omega
theorem fb_ge {s : S8} {l : List Nat} (h : 64 ≤ l.length) : fb s l = fb (thr s (l.take 64)) (l.drop 64) := by rw [fb]; simp [h]
theorem fb_app (k : Nat) : ∀ (s : S8) (x y : List Nat), x.length = 64 * k → fb s (x ++ y) = fb (fb s x) y := by
  induction k with
  | zero => intro s x y h; have : x = [] := List.length_eq_zero_iff.1 (by omega); subst this; simp [fb_lt (s := s) (l := []) (by simp)]
  | succ k ih =>
    intro s x y h
    rw [fb_ge (l := x ++ y) (by simp; omega), fb_ge (l := x) (by omega), List.take_append_of_le_length (by omega), List.drop_append_of_le_length (by omega)]
    exact ih _ _ _ (by simp; omega)
/-- The hash holds the message m. -/
structure HC (m : List Nat) (h : HS) : Prop where
  len : h.part.length = 64
  n : h.n = m.length
  rem : h.part.take (m.length % 64) = m.drop (64 * (m.length / 64))
  s : h.begun = true → h.s = fb first8 m
  none : h.begun = false → m = []
theorem HC.wr0 {m : List Nat} {h : HS} (hc : HC m h) : HC m (wr0 h) ∧ (Ck.wr0 h).begun = true := by
  unfold Ck.wr0
  cases hb : h.begun with
  | true => rw [if_pos rfl]; exact ⟨hc, hb⟩
  | false =>
    rw [if_neg (by simp)]
    have := hc.none hb
    subst this
    exact ⟨⟨hc.len, hc.n, hc.rem, fun _ => (fb_lt (by simp)).symm, fun h => by cases h⟩, rfl⟩
theorem HC.wrN {m : List Nat} {h : HS} (hc : HC m h) (hb : h.begun = true) (b : List Nat) (hb0 : 0 < b.length) : HC (m ++ b.take (min b.length (64 - h.n % 64))) (wrN h b) := by
  obtain ⟨h1, h2, h3, h4, h5⟩ := hc
  generalize hk : min b.length (64 - h.n % 64) = k
  rw [h2] at hk
  have hl : (b.take k).length = k := by rw [List.length_take]; omega
  have hr64 : m.length % 64 < 64 := Nat.mod_lt _ (by decide)
  have hkr : m.length % 64 + k ≤ 64 := by omega
  have hml : (m.drop (64 * (m.length / 64))).length = m.length % 64 := by rw [List.length_drop]; omega
  have hsplit : m = m.take (64 * (m.length / 64)) ++ m.drop (64 * (m.length / 64)) := (List.take_append_drop _ _).symm
  have hfull : (m.take (64 * (m.length / 64))).length = 64 * (m.length / 64) := by rw [List.length_take]; omega
  have hfm : fb first8 m = fb first8 (m.take (64 * (m.length / 64))) := by
    have h6 : fb first8 m = fb first8 (m.take (64 * (m.length / 64)) ++ m.drop (64 * (m.length / 64))) := by rw [← hsplit]
    rw [h6, fb_app _ _ _ _ hfull, fb_lt (by omega)]
  refine ⟨wrN_len h1 b, ?_, ?_, fun _ => ?_, fun h => ?_⟩
  · simp [Ck.wrN, hk, h2, hl]
  · simp only [Ck.wrN, hk, h2, h3, List.length_append, hl]
    by_cases hz : m.length % 64 + k = 64
    · have e1 : (m.length + k) % 64 = 0 := by omega
      have e2 : 64 * ((m.length + k) / 64) = m.length + k := by omega
      rw [e1, e2, List.take_zero, List.drop_of_length_le (by simp [hl])]
    · have e1 : (m.length + k) % 64 = m.length % 64 + k := by omega
      have e2 : (m.length + k) / 64 = m.length / 64 := by omega
      rw [e1, e2, List.take_append_of_le_length (by simp [hl]; omega), List.take_of_length_le (by simp [hl]; omega), List.drop_append_of_le_length (by omega)]
  · simp only [Ck.wrN, hk, h2, h3]
    by_cases hz : m.length % 64 + k = 64
    · have e1 : (m.length + k) % 64 = 0 := by omega
      rw [if_pos e1, h4 hb, hfm]
      have e3 : m.length % 64 + k = 64 := hz
      rw [e3, List.drop_of_length_le (l := h.part) (by omega), List.append_nil]
      conv => rhs; rw [hsplit, List.append_assoc, fb_app _ _ _ _ hfull]
      have hll : (m.drop (64 * (m.length / 64)) ++ b.take k).length = 64 := by rw [List.length_append, hml, hl]; omega
      rw [fb_ge (l := m.drop (64 * (m.length / 64)) ++ b.take k) (by omega), List.take_of_length_le (l := m.drop (64 * (m.length / 64)) ++ b.take k) (by omega), fb_lt (l := (m.drop (64 * (m.length / 64)) ++ b.take k).drop 64) (by rw [List.length_drop]; omega)]
    · have e1 : (m.length + k) % 64 ≠ 0 := by omega
      rw [if_neg e1, h4 hb, hfm]
      conv => rhs; rw [hsplit, List.append_assoc, fb_app _ _ _ _ hfull]
      rw [fb_lt (l := m.drop (64 * (m.length / 64)) ++ b.take k) (by rw [List.length_append, hml, hl]; omega)]
  · simp [Ck.wrN, hb] at h
theorem HC.wrL : ∀ (n : Nat) {b m : List Nat} {h : HS}, b.length = n → HC m h → h.begun = true → HC (m ++ b) (wrL h b)
  | n, b, m, h, hn, hc, hb => by
    by_cases hbe : b = []
    · subst hbe; rw [wrL_nil, List.append_nil]; exact hc
    · have h1 : 0 < b.length := List.length_pos_iff.2 hbe
      rw [wrL_step hbe]
      have h2 := HC.wrN hc hb b h1
      have h3 := HC.wrL (b.drop (min b.length (64 - h.n % 64))).length (b := b.drop (min b.length (64 - h.n % 64))) rfl h2 (by simp [Ck.wrN, hb])
      rw [List.append_assoc, List.take_append_drop] at h3
      exact h3
termination_by n => n
decreasing_by
  simp only [List.length_drop]
  omega
theorem HC.wr {m b : List Nat} {h : HS} (hc : HC m h) : HC (m ++ b) (Ck.wr h b) ∧ (Ck.wr h b).begun = true := by
  obtain ⟨h1, h2⟩ := HC.wr0 hc
  refine ⟨HC.wrL _ rfl h1 h2, ?_⟩
  have key : ∀ (n : Nat) (b : List Nat) (h : HS), b.length = n → h.begun = true → (Ck.wrL h b).begun = true := by
    intro n
    induction n using Nat.strongRecOn with
    | _ n ih =>
      intro b h hn hb
      by_cases hbe : b = []
      · subst hbe; rw [wrL_nil]; exact hb
      · rw [wrL_step hbe]
        have h1 : 0 < b.length := List.length_pos_iff.2 hbe
        exact ih (b.drop (min b.length (64 - h.n % 64))).length (by simp; omega) _ _ rfl (by simp [Ck.wrN, hb])
  exact key _ _ _ rfl h2
/-- The hash ahead of anything. -/
def h00 : HS := ⟨false, ⟨0, 0, 0, 0, 0, 0, 0, 0⟩, List.replicate 64 0, 0⟩
theorem HC.zero : HC [] h00 := ⟨rfl, rfl, rfl, (fun h => absurd h (by decide)), fun _ => rfl⟩
theorem be8w_len (n : Nat) : (be8 n).length = 8 := rfl
theorem endP_len (n : Nat) : (endP n).length = 9 + zpad n := by simp [endP, be8w_len]; omega
theorem sha_len (m : List Nat) : (sha m).length = 32 := by8_len _
end Go.Ck
namespace Go.Ck
theorem ren_pv (ρ : Nat → Nat) (ps : List PV) : (ps.map SV.pv).map (SV.ren ρ) = ps.map SV.pv := by
  rw [List.map_map]; rfl
theorem hsC_ren (ρ : Nat → Nat) (h : HS) : (hsC h).map (SV.ren ρ) = hsC h := by
  have : hsC h = (PV.bool h.begun :: (h.s.l.map wP ++ (bytes h.part ++ [PV.int .i64 (h.n : Int)]))).map SV.pv := rfl
  rw [this, ren_pv]
attribute [go_sem] ren_pv hsC_ren
theorem all_one_bytes (l : List Nat) : (bytes l).all PV.one = true := by
  simp only [bytes, List.all_map, List.all_eq_true]
  intro x _; rfl
end Go.Ck
namespace Go.Ck
def hsP (h : HS) : List PV := PV.bool h.begun :: (h.s.l.map wP ++ (bytes h.part ++ [PV.int .i64 (h.n : Int)]))
theorem hsC_P (h : HS) : hsC h = (hsP h).map SV.pv := rfl
theorem hsP_len {h : HS} (hp : h.part.length = 64) : (hsP h).length = 74 := by have := hsC_len hp; rw [hsC_P, List.length_map] at this; exact this
theorem hsP_one (h : HS) : (hsP h).all PV.one = true := by
  simp only [hsP, List.all_cons, List.all_append, all_one_bytes]
  simp [PV.one, S8.l, wP]
theorem hsC_clo (h : HS) : (hsC h).all SV.clo = true := by
  have hb : (bytes h.part).all PV.clo = true := by
    simp only [bytes, List.all_map, List.all_eq_true]
    intro x _; rfl
  have : (hsP h).all PV.clo = true := by
    simp only [hsP, List.all_cons, List.all_append, hb]
    simp [PV.clo, S8.l, wP]
  rw [hsC_P, List.all_map]
  exact this
attribute [go_sem] hsC_clo
theorem bytes_snoc (l : List Nat) (x : Nat) : bytes l ++ [.int .u8 (x : Int)] = bytes (l ++ [x]) := by rw [← bytes_append]; rfl
theorem bytes_snoc0 (l : List Nat) : bytes l ++ [.int .u8 0] = bytes (l ++ [0]) := by rw [← bytes_append]; rfl
def encE (p : List Nat) (v i : Nat) : List Nat := p ++ (be8 v).take i
theorem encE0 (p : List Nat) (v : Nat) : encE p v 0 = p := by simp [encE]
theorem encE8 (p : List Nat) (v : Nat) : encE p v 8 = p ++ be8 v := rfl
theorem encE_len (p : List Nat) (v i : Nat) (h : i ≤ 8) : (encE p v i).length = p.length + i := by simp [encE, be8w_len]; omega
theorem encE_0 (p : List Nat) (v : Nat) : encE p v 0 ++ [v / 2 ^ 56 % 256] = encE p v 1 := by simp [encE, be8]
theorem encE_1 (p : List Nat) (v : Nat) : encE p v 1 ++ [v / 2 ^ 48 % 256] = encE p v 2 := by simp [encE, be8]
theorem encE_2 (p : List Nat) (v : Nat) : encE p v 2 ++ [v / 2 ^ 40 % 256] = encE p v 3 := by simp [encE, be8]
theorem encE_3 (p : List Nat) (v : Nat) : encE p v 3 ++ [v / 2 ^ 32 % 256] = encE p v 4 := by simp [encE, be8]
theorem encE_4 (p : List Nat) (v : Nat) : encE p v 4 ++ [v / 2 ^ 24 % 256] = encE p v 5 := by simp [encE, be8]
theorem encE_5 (p : List Nat) (v : Nat) : encE p v 5 ++ [v / 2 ^ 16 % 256] = encE p v 6 := by simp [encE, be8]
theorem encE_6 (p : List Nat) (v : Nat) : encE p v 6 ++ [v / 2 ^ 8 % 256] = encE p v 7 := by simp [encE, be8]
theorem encE_7' (p : List Nat) (v : Nat) : encE p v 7 ++ [v / 2 ^ 0 % 256] = encE p v 8 := by simp [encE, be8]
end Go.Ck
namespace Go.Ck
theorem ws48 : IntKind.i64.wrap 48 = 48 := by decide
theorem ws40 : IntKind.i64.wrap 40 = 40 := by decide
theorem ws32 : IntKind.i64.wrap 32 = 32 := by decide
theorem ws24 : IntKind.i64.wrap 24 = 24 := by decide
theorem ws16 : IntKind.i64.wrap 16 = 16 := by decide
theorem ws8 : IntKind.i64.wrap 8 = 8 := by decide
theorem ws0 : IntKind.i64.wrap 0 = 0 := by decide
theorem wsm8 : IntKind.i64.wrap (-8) = -8 := by decide
theorem wrL_len : ∀ (n : Nat) (h : HS) (b : List Nat), b.length = n → h.part.length = 64 → (wrL h b).part.length = 64 := by
  intro n
  induction n using Nat.strongRecOn with
  | _ n ih =>
    intro h b hn hb
    by_cases hbe : b = []
    · subst hbe; rw [wrL_nil]; exact hb
    · rw [wrL_step hbe]
      have h1 : 0 < b.length := List.length_pos_iff.2 hbe
      exact ih (b.drop (min b.length (64 - h.n % 64))).length (by simp; omega) _ _ rfl (wrN_len hb b)
theorem wr_len {h : HS} (hp : h.part.length = 64) (b : List Nat) : (wr h b).part.length = 64 := by
  refine wrL_len _ _ _ rfl ?_
  unfold wr0; split <;> exact hp
end Go.Ck
namespace Go.Ck
def bK (v k : Nat) : Nat := v / 2 ^ k % 256
theorem bK_sh (v k : Nat) (h : k ≤ 64) : IntKind.u8.wrap (shrI .u64 (v : Int) (k : Int)) = ((bK v k : Nat) : Int) := by
  rw [shrI_nat .u64 v k h, wrap_u8]; rfl
theorem bK_56 (v : Nat) : IntKind.u8.wrap (shrI .u64 (v : Int) 56) = ((bK v 56 : Nat) : Int) := bK_sh v 56 (by decide)
theorem bK_48 (v : Nat) : IntKind.u8.wrap (shrI .u64 (v : Int) 48) = ((bK v 48 : Nat) : Int) := bK_sh v 48 (by decide)
theorem bK_40 (v : Nat) : IntKind.u8.wrap (shrI .u64 (v : Int) 40) = ((bK v 40 : Nat) : Int) := bK_sh v 40 (by decide)
theorem bK_32 (v : Nat) : IntKind.u8.wrap (shrI .u64 (v : Int) 32) = ((bK v 32 : Nat) : Int) := bK_sh v 32 (by decide)
theorem bK_24 (v : Nat) : IntKind.u8.wrap (shrI .u64 (v : Int) 24) = ((bK v 24 : Nat) : Int) := bK_sh v 24 (by decide)
theorem bK_16 (v : Nat) : IntKind.u8.wrap (shrI .u64 (v : Int) 16) = ((bK v 16 : Nat) : Int) := bK_sh v 16 (by decide)
theorem bK_8 (v : Nat) : IntKind.u8.wrap (shrI .u64 (v : Int) 8) = ((bK v 8 : Nat) : Int) := bK_sh v 8 (by decide)
theorem bK_0 (v : Nat) : IntKind.u8.wrap (shrI .u64 (v : Int) 0) = ((bK v 0 : Nat) : Int) := bK_sh v 0 (by decide)
theorem encK_0 (p : List Nat) (v : Nat) : encE p v 0 ++ [bK v 56] = encE p v 1 := encE_0 p v
theorem encK_1 (p : List Nat) (v : Nat) : encE p v 1 ++ [bK v 48] = encE p v 2 := encE_1 p v
theorem encK_2 (p : List Nat) (v : Nat) : encE p v 2 ++ [bK v 40] = encE p v 3 := encE_2 p v
theorem encK_3 (p : List Nat) (v : Nat) : encE p v 3 ++ [bK v 32] = encE p v 4 := encE_3 p v
theorem encK_4 (p : List Nat) (v : Nat) : encE p v 4 ++ [bK v 24] = encE p v 5 := encE_4 p v
theorem encK_5 (p : List Nat) (v : Nat) : encE p v 5 ++ [bK v 16] = encE p v 6 := encE_5 p v
theorem encK_6 (p : List Nat) (v : Nat) : encE p v 6 ++ [bK v 8] = encE p v 7 := encE_6 p v
theorem encK_7 (p : List Nat) (v : Nat) : encE p v 7 ++ [bK v 0] = encE p v 8 := encE_7' p v
end Go.Ck

set_option linter.unusedVariables false
set_option maxRecDepth 100000
set_option maxHeartbeats 400000
namespace Go.Ck
open Go.Proofs
def hO (h : HS) : List (Nat × HO) := [(1000, .cells 135 (hsC h))]
theorem Write_fn (h0 : HS) (b0 : List Nat) (hp0 : h0.part.length = 64) (hn0 : h0.n + b0.length < 2 ^ 60) : Fn Try.prog 100 (hO h0) [.ptr 1000 0, .pv (.sl 1 (bytes b0))] (fun rs H' => rs = [.pv (.int .i64 b0.length)] ∧ H' = hO (wr h0 b0)) := by
  refine Fn.of_body (fn := Try.f100) (n := 67) (res := [.tmp 4]) (by kernel_rfl) rfl rfl rfl rfl rfl (fun C => ?_)
  unfold hO
  have hbg := hsC_begun h0
  have hlen0 := hsC_len hp0
  refine AW.go ?_
  refine AW.condF rfl ?_
  refine AW.go ?_ (by simp only [go_sem, ↓reduceIte, hbg] <;> rfl)
  refine AW.joinS (fun _ : Unit => ⟨67, [(0, .ptr 1000 0), (1, .pv (.sl 1 (bytes b0)))], [(1000, .cells 135 (hsC (wr0 h0)))]⟩) (fun _ => True) [0, 1] [1000] ?_ ?_
  · intro K hK
    obtain ⟨bg, s, p, n⟩ := h0
    cases bg with
    | true =>
      refine AW.condF rfl ?_
      refine AW.go ?_
      exact AW.meet hK () trivial (by simp only [go_sem, ↓reduceIte]) (by simp only [go_sem, ↓reduceIte, wr0] <;> rfl)
    | false =>
      refine AW.condT rfl ?_
      refine AW.go ?_
      refine AW.callE (fun _ => 0) first_fn .nil ?_
      have hsB := hsC_setB ⟨false, s, p, n⟩ true
      have l0 : (0 < 74) = True := eq_true (by decide)
      refine AW.goN 5 ?_ (by simp only [go_sem, ↓reduceIte, Nat.reduceMul, hlen0, l0, hsB] <;> rfl)
      refine AW.storeP (off := 1) (ps := first8.l.map wP) rfl rfl rfl ?_ ?_ (hT := tsh_133) (h1 := rfl)
      · rw [hsC_len (h := ⟨true, s, p, n⟩) hp0]; decide
      rw [hsC_setS]
      refine AW.go ?_
      exact AW.meet hK () trivial (by simp only [go_sem, ↓reduceIte]) (by simp only [go_sem, ↓reduceIte, wr0] <;> rfl)
  rintro _ -
  have hwr : wr h0 b0 = wrL (wr0 h0) b0 := rfl
  have hpw : (wr0 h0).part.length = 64 := by unfold wr0; split <;> exact hp0
  have hnw : (wr0 h0).n = h0.n := by unfold wr0; split <;> rfl
  rw [hwr]
  rw [← hnw] at hn0
  generalize wr0 h0 = h1 at *
  refine AW.go ?_
  refine AW.loopS (fun a : HS × List Nat => ⟨67, [(0, .ptr 1000 0), (1, .pv (.sl 1 (bytes a.2))), (5, .pv (.int .i64 b0.length))], [(1000, .cells 135 (hsC a.1))]⟩) (fun a => a.1.part.length = 64 ∧ wrL a.1 a.2 = wrL h1 b0 ∧ a.1.n + a.2.length = h1.n + b0.length) (fun a => a.2.length) [0, 1, 5] [1000] (h1, b0) ⟨hpw, rfl, rfl⟩ ?_
  rintro ⟨h, b⟩ ⟨hp, hw, hs⟩ K hK
  simp only at hp hw hs
  refine AW.go ?_
  refine AW.cond rfl (fun hc => ?_) (fun hc => ?_)
  rotate_left
  · have hb : b = [] := by
      have := of_decide_eq_false hc
      exact List.length_eq_zero_iff.1 (by omega)
    subst hb
    rw [wrL_nil] at hw
    subst hw
    refine AW.go ?_
    refine AW.finE (.pv _ .nil) rfl
  · have hb0 : 0 < b.length := by have := of_decide_eq_true hc; omega
    have hbne : b ≠ [] := List.length_pos_iff.1 hb0
    have hws := wrL_step (h := h) hbne
    have hwl := wrN_len hp b
    have hwn : (wrN h b).n = h.n + min b.length (64 - h.n % 64) := rfl
    have hwN : wrN h b = ⟨h.begun, if (h.n + min b.length (64 - h.n % 64)) % 64 = 0 then thr h.s (h.part.take (h.n % 64) ++ b.take (min b.length (64 - h.n % 64)) ++ h.part.drop (h.n % 64 + min b.length (64 - h.n % 64))) else h.s, h.part.take (h.n % 64) ++ b.take (min b.length (64 - h.n % 64)) ++ h.part.drop (h.n % 64 + min b.length (64 - h.n % 64)), h.n + min b.length (64 - h.n % 64)⟩ := rfl
    have hpl : (h.part.take (h.n % 64) ++ b.take (min b.length (64 - h.n % 64)) ++ h.part.drop (h.n % 64 + min b.length (64 - h.n % 64))).length = 64 := hwl
    generalize hk : min b.length (64 - h.n % 64) = kk at *
    obtain ⟨r, hr⟩ : ∃ r, r = h.n % 64 := ⟨_, rfl⟩
    rw [← hr] at hk hwN hpl
    have hr64 : r < 64 := by omega
    have hn := hsC_n hp
    have hlen := hsC_len hp
    have erem : ((h.n : Int)).tmod 64 = (r : Int) := by rw [hr]; rfl
    have hbl : (b.take kk).length = kk := by rw [List.length_take]; omega
    refine AW.go ?_
    refine AW.calmS ?_
    refine CK.reads [[], [26], [27], [], [29], [30], [31], [32]] ?_ (by simp only [go_sem, ↓reduceIte, hn, erem, hlen] <;> rfl)
    refine CK.sliceO [28, 33] r 64 tk_110 (by omega) (by omega) (by omega) ?_
    refine CK.reads [[]] ?_ (by simp only [go_sem, ↓reduceIte, hn, erem, hlen] <;> rfl)
    refine CK.done (M := 10) 2 mixed ?_
    refine AW.seqs (fuel := 0) (listed' := Array.replicate 12 true) [10, 11] ?_ (by decide +kernel)
    refine AW.copyO (ez := 0) (off := 9 + r) (n := 64 - r) (kk := kk) (xs := bytes b) rfl rfl ?_ rfl rfl (all_one_bytes b) ?_ ?_ (hT := tk_23)
    · rw [hlen]; omega
    · rw [bytes_length]; exact hk.symm
    rw [bytes_take, hsC_setP hp r (b.take kk) (by omega), hbl]
    generalize hp1 : h.part.take r ++ b.take kk ++ h.part.drop (r + kk) = p at *
    refine AW.gg ?_
    refine AW.anyDone (by decide +kernel) ?_
    obtain ⟨bg, s, p0, n⟩ := h
    simp only at hp hw hs hwl hws hwn hr hwN
    have hn2 := hsC_n (h := ⟨bg, s, p, n⟩) hpl
    have hlen2 := hsC_len (h := ⟨bg, s, p, n⟩) hpl
    have hset2 := hsC_setN (h := ⟨bg, s, p, n⟩) hpl (n + kk)
    have e1 : ((b.length : Int) - (kk : Int)).toNat = b.length - kk := by omega
    have e2 : (b.drop kk).take (b.length - kk) = b.drop kk := List.take_of_length_le (by rw [List.length_drop]; omega)
    have e3 : ((kk : Int) ≤ (b.length : Int)) = True := eq_true (by omega)
    have e3' : (kk ≤ b.length) = True := eq_true (by omega)
    have e4 : IntKind.i64.wrap ((n : Int) + (kk : Int)) = ((n + kk : Nat) : Int) := by rw [wrap_i64_of (by omega) (by omega)]; omega
    have l73 : (73 < 74) = True := eq_true (by decide)
    have hn3 := hsC_n (h := ⟨bg, s, p, n + kk⟩) hpl
    have hlen3 := hsC_len (h := ⟨bg, s, p, n + kk⟩) hpl
    have hs3 := hsC_s ⟨bg, s, p, n + kk⟩
    have hp3 := hsC_part (h := ⟨bg, s, p, n + kk⟩) hpl
    have erem2 : (((n + kk : Nat) : Int)).tmod 64 = (((n + kk) % 64 : Nat) : Int) := rfl
    have l74 : 1 + 8 ≤ 74 := by decide
    have l18 : (1 + 8 ≤ 74) = True := eq_true (by decide)
    have hfin : b.length - kk < b.length := by omega
    have hnum : n + kk + (b.length - kk) = h1.n + b0.length := by omega
    refine AW.go ?_ (by simp only [go_sem, ↓reduceIte, hn2, hlen2, hset2, e1, e2, e3, e3', e4, l73, hn3, erem2] <;> rfl)
    refine AW.cond rfl (fun hc2 => ?_) (fun hc2 => ?_)
    rotate_left
    · have hne : ¬ (n + kk) % 64 = 0 := by
        intro h
        rw [h] at hc2
        exact absurd hc2 (by decide)
      rw [if_neg hne] at hwN
      refine AW.go ?_
      refine AW.again hK (wrN ⟨bg, s, p0, n⟩ b, b.drop kk) (by exact ⟨hwl, by rw [← hws]; exact hw, by simp only [List.length_drop, hwn]; omega⟩) (by simp; omega) (hs := by simp only [go_sem, ↓reduceIte, hwN] <;> rfl)
    · have he : (n + kk) % 64 = 0 := by
        have := eq_of_beq hc2
        omega
      rw [if_pos he] at hwN
      refine AW.keepB [0, 1, 5] [1000] (by simp only [go_sem, ↓reduceIte]) (by simp only [go_sem, ↓reduceIte] <;> rfl) ?_
      refine AW.go ?_
      refine AW.calmS ?_
      refine CK.reads [[], [], [55], [56], [57], [], [59], [60]] ?_ (by simp only [go_sem, ↓reduceIte, hlen3, hs3, l18] <;> rfl)
      refine CK.sliceO [61] 0 64 tk_110 (by omega) (by omega) (by omega) ?_
      refine CK.callP (args := [.pv (stP s), .pv (.sl 1 (bytes p))]) [58, 62] (through_fn s p hpl) (fun t hle => .pv _ (.lendO (hle.lk rfl) hp3 (by rw [bytes_length, hpl]) (all_one_bytes p) (le_maxLen 64) .nil)) ?_
      refine CK.done (M := 10) 3 mixed ?_
      refine AW.seqs (fuel := 0) (listed' := Array.replicate 13 true) [10, 11, 12] ?_ (by decide +kernel)
      refine AW.goN 2 ?_
      refine AW.storeP (off := 1) (ps := (thr s p).l.map wP) rfl rfl rfl ?_ ?_ (hT := tsh_133) (h1 := rfl)
      · rw [hsC_len (h := ⟨bg, s, p, n + kk⟩) hpl]; exact l74
      rw [hsC_setS]
      refine AW.go ?_
      refine AW.anyDone (by decide +kernel) ?_
      refine AW.go ?_
      exact AW.again hK (wrN ⟨bg, s, p0, n⟩ b, b.drop kk) (by exact ⟨hwl, by rw [← hws]; exact hw, by simp only [List.length_drop, hwn]; omega⟩) (by simp; omega) (hs := by simp only [go_sem, ↓reduceIte, hwN] <;> rfl)
end Go.Ck

set_option linter.unusedVariables false
set_option maxRecDepth 100000
set_option maxHeartbeats 400000
namespace Go.Ck
open Go.Proofs
attribute [go_sem] hO
theorem hSum_fn (h : HS) (m : List Nat) (hc : HC m h) (hm : m.length < 2 ^ 59) : Fn Try.prog 101 (hO h) [.ptr 1000 0] (fun rs H' => rs = [.own 5 (bytes (sha m))] ∧ H' = hO h) := by
  refine Fn.of_body (fn := Try.f101) (n := 43) (res := [.tmp 2]) (by kernel_rfl) rfl rfl rfl rfl rfl (fun C => ?_)
  have hroom : room = 140737488355328 := rfl
  have hsha : sha m = by8 (wr h (endP m.length)).s := by
    have := (hc.wr (b := endP m.length))
    rw [this.1.s this.2]; rfl
  rw [hsha]
  obtain ⟨hp, hn, _, _, _⟩ := hc
  rw [← hn] at hm ⊢
  unfold hO
  have hlen := hsC_len hp
  have hgn := hsC_n hp
  refine AW.go ?_
  refine AW.condF rfl ?_
  refine AW.goM 9 ?_
  refine AW.loadP (off := 0) (ps := hsP h) rfl rfl ?_ ?_ (hT := by rw [hsP_len hp]; exact tsh_135) (hle := by rw [hsP_len hp, hlen]; decide)
  · rw [hsP_len hp, take_all _ _ hlen]; rfl
  refine AW.goN 1 ?_
  refine AW.storeP (off := 0) (ps := hsP h) rfl rfl rfl ?_ ?_ (hT := by rw [hsP_len hp]; exact tsh_135) (h1 := hsP_one h)
  · rw [hsP_len hp]; decide
  rw [setCells_all _ _ (by rw [List.length_map, hsP_len hp]; rfl), ← hsC_P]
  refine AW.keepB [3] [3, 1000] (by simp only [go_sem, ↓reduceIte]) (by simp only [go_sem, ↓reduceIte] <;> rfl) ?_
  have l73 : (73 < 74) = True := eq_true (by decide)
  refine AW.go ?_ (by simp only [go_sem, ↓reduceIte, hgn, hlen, l73] <;> rfl)
  refine AW.loopS (fun j : Nat => ⟨43, [(4, .pv (.int .i64 h.n)), (3, .ptr 3 0), (5, .own 5 (bytes (128 :: List.replicate j 0)))], [(3, .cells 135 (hsC h)), (1000, .cells 135 (hsC h))]⟩) (fun j => j ≤ zpad h.n) (fun j => zpad h.n - j) [4, 3, 5] [3, 1000] 0 (Nat.zero_le _) ?_
  rintro j hj K hK
  have hzp : zpad h.n = (119 - h.n % 64) % 64 := rfl
  have hql : (128 :: List.replicate j 0).length = j + 1 := by simp
  have hqn : (128 :: List.replicate j 0) ++ [0] = 128 :: List.replicate (j + 1) 0 := by rw [List.replicate_succ']; rfl
  generalize hqq : 128 :: List.replicate j 0 = q at *
  have e1 : IntKind.i64.wrap ((h.n : Int) + ((j + 1 : Nat) : Int)) = ((h.n + (j + 1) : Nat) : Int) := by rw [wrap_i64_of (by omega) (by omega)]; omega
  have e2 : ((h.n + (j + 1) : Nat) : Int).tmod 64 = (((h.n + (j + 1)) % 64 : Nat) : Int) := rfl
  refine AW.go ?_ (by simp only [go_sem, ↓reduceIte, hql, e1, e2] <;> rfl)
  refine AW.cond rfl (fun hc => ?_) (fun hc => ?_)
  · have hne : (h.n + (j + 1)) % 64 ≠ 56 := by
      intro h
      rw [h] at hc
      exact absurd hc (by decide)
    have r1 : q.length + 1 ≤ room := by omega
    have r2 : j + 1 + 1 ≤ room := by omega
    refine AW.go ?_ (by simp only [go_sem, ↓reduceIte, bytes_snoc0, hql, r1, r2] <;> rfl)
    exact AW.again hK (j + 1) (by omega) (by omega) (hs := by simp only [go_sem, ↓reduceIte, hqn] <;> rfl)
  have hjz : j = zpad h.n := by
    have : (h.n + (j + 1)) % 64 = 56 := by
      have h2 : ((((h.n + (j + 1)) % 64 : Nat) : Int) == 56) = true := by simpa [bne] using hc
      have := eq_of_beq h2
      omega
    omega
  subst hjz
  refine AW.go ?_
  have ew : IntKind.u64.wrap (h.n : Int) = (h.n : Int) := wrap_u64_lt (by omega)
  have em : IntKind.u64.wrap ((h.n : Int) * 8) = ((h.n * 8 : Nat) : Int) := by rw [show (h.n : Int) * 8 = ((h.n * 8 : Nat) : Int) by omega]; exact wrap_u64_lt (by omega)
  refine AW.loopS (fun i : Nat => ⟨43, [(4, .pv (.int .i64 h.n)), (3, .ptr 3 0), (6, .pv (.int .i64 (56 - 8 * (i : Int)))), (5, .own 5 (bytes (encE q (h.n * 8) i)))], [(3, .cells 135 (hsC h)), (1000, .cells 135 (hsC h))]⟩) (fun i => i ≤ 8) (fun i => 8 - i) [4, 3, 6, 5] [3, 1000] 0 (Nat.zero_le _) ?_ (hs := by simp only [go_sem, ↓reduceIte, encE0] <;> rfl)
  rintro i hi K2 hK2
  have hel := encE_len q (h.n * 8) i hi
  have r3 : (encE q (h.n * 8) i).length + 1 ≤ room := by omega
  have hcase : i = 8 ∨ i = 0 ∨ i = 1 ∨ i = 2 ∨ i = 3 ∨ i = 4 ∨ i = 5 ∨ i = 6 ∨ i = 7 := by omega
  rcases hcase with rfl | hcase
  · refine AW.go ?_
    refine AW.condF rfl ?_
    have hqe : q ++ be8 (h.n * 8) = endP h.n := by rw [← hqq]; rfl
    rw [encE8, hqe]
    refine AW.go ?_
    have hel2 : h.n + (endP h.n).length < 2 ^ 60 := by rw [endP_len]; omega
    refine AW.callE (args := [.ptr 1000 0, .pv (.sl 1 (bytes (endP h.n)))]) (fun _ => 3) (Write_fn h (endP h.n) hp hel2) (.ptr rfl (.lend rfl co_5 .nil)) ?_
    have hlw : (hsC (wr h (endP h.n))).length = 74 := hsC_len (wr_len hp _)
    have hsw := hsC_s (wr h (endP h.n))
    have l18 : (1 + 8 ≤ 74) = True := eq_true (by decide)
    refine AW.go ?_ (by simp only [go_sem, ↓reduceIte, hlw, hsw, l18] <;> rfl)
    refine AW.callE (fun _ => 0) (bytesW_fn (wr h (endP h.n)).s) (.pv _ .nil) ?_
    refine AW.go ?_
    refine AW.finE (.move rfl .nil) rfl
  generalize h.n * 8 = v at *
  rcases hcase with rfl | rfl | rfl | rfl | rfl | rfl | rfl | rfl
  all_goals
    refine AW.go ?_ (by simp only [go_sem, ↓reduceIte, nc0, nc1, nc2, nc3, nc4, nc5, nc6, nc7, Int.reduceMul, Int.reduceSub] <;> rfl)
    refine AW.condT rfl ?_
    refine AW.go ?_ (by simp only [go_sem, ↓reduceIte, ew, em, bK_56, bK_48, bK_40, bK_32, bK_24, bK_16, bK_8, bK_0, bytes_snoc, encK_0, encK_1, encK_2, encK_3, encK_4, encK_5, encK_6, encK_7, r3, Int.reduceSub, ws48, ws40, ws32, ws24, ws16, ws8, ws0, wsm8] <;> rfl)
    first
      | exact AW.again hK2 1 (by decide) (by decide)
      | exact AW.again hK2 2 (by decide) (by decide)
      | exact AW.again hK2 3 (by decide) (by decide)
      | exact AW.again hK2 4 (by decide) (by decide)
      | exact AW.again hK2 5 (by decide) (by decide)
      | exact AW.again hK2 6 (by decide) (by decide)
      | exact AW.again hK2 7 (by decide) (by decide)
      | exact AW.again hK2 8 (by decide) (by decide)

theorem shaSum_fn (m : List Nat) (hm : m.length < 2 ^ 59) : Fn Try.prog 82 [] [.pv (.sl 1 (bytes m))] (fun rs H' => rs = [.own 5 (bytes (sha m))] ∧ H' = []) := by
  refine Fn.of_body (fn := Try.f82) (n := 11) (res := [.tmp 2]) (by kernel_rfl) rfl rfl rfl rfl rfl (fun C => ?_)
  refine AW.go ?_
  have h := (HC.zero).wr (b := m)
  refine AW.keepB [6, 7, 3] [5] (by simp only [go_sem, ↓reduceIte]) (s' := ⟨11, [(6, .ptr 5 0), (7, .pv (.sl 1 (bytes m))), (3, .ptr 5 0)], [(5, .cells 135 (hsC h00))]⟩) (by simp only [go_sem, ↓reduceIte] <;> rfl) ?_
  refine AW.callE (fun _ => 5) (Write_fn h00 m rfl (by show 0 + m.length < 2 ^ 60; omega)) (.ptr rfl (.pv _ .nil)) ?_
  refine AW.go ?_
  refine AW.callE (fun _ => 5) (hSum_fn (wr h00 m) m h.1 hm) (.ptr rfl .nil) ?_
  refine AW.go ?_
  refine AW.finE (.move rfl .nil) rfl
end Go.Ck

set_option linter.unusedVariables false
namespace Go.Ck
def wds (ws : List W32) : List PV := ws.map wP
theorem wds_len (ws : List W32) : (wds ws).length = ws.length := by simp [wds]
theorem wds_get {ws : List W32} {i : Nat} (h : i < ws.length) : (wds ws)[i]? = some (.int .u32 ((wAt ws i).toNat : Int)) := by
  rw [wAt_get h]; simp [wds, wP, h]
theorem wds_snoc (ws : List W32) (x : W32) : wds ws ++ [.int .u32 (x.toNat : Int)] = wds (ws ++ [x]) := by simp [wds, wP]
theorem cloL_wds (ws : List W32) : cloL (wds ws) = true := by
  induction ws with
  | nil => rfl
  | cons a l ih => simpa [wds, cloL, PV.clo, wP] using ih
attribute [go_sem] wds_len cloL_wds
theorem rotW_ref (x : W32) (n : Nat) : (x >>> n) ||| (x <<< (32 - n)) = rotW x n := BitVec.or_comm _ _
theorem nextW_ref (a b c d : W32) : a + b + c + d = d + c + b + a := by
  rw [BitVec.add_comm (a + b + c) d, BitVec.add_comm (a + b) c, BitVec.add_comm a b, ← BitVec.add_assoc, ← BitVec.add_assoc]
theorem shl_shl (x : W32) (a b : Nat) : (x <<< a) <<< b = x <<< (a + b) := (BitVec.shiftLeft_add x a b).symm
theorem wd4_ref (a b c d : Nat) : ((BitVec.ofNat 32 a <<< 24) ||| (BitVec.ofNat 32 b <<< 16)) ||| (BitVec.ofNat 32 c <<< 8) ||| BitVec.ofNat 32 d = wd4 [a, b, c, d] := by
  have h0 : ((0 : W32) <<< 32) = 0#32 := by decide
  simp only [wd4, List.foldl_cons, List.foldl_nil, BitVec.shiftLeft_or_distrib, shl_shl, Nat.reduceAdd, h0, BitVec.zero_or]
theorem drop4 (b : List Nat) (p : Nat) (h : p + 4 ≤ b.length) : ∃ x y z w, b[p]? = some x ∧ b[p + 1]? = some y ∧ b[p + 2]? = some z ∧ b[p + 3]? = some w ∧ (b.drop p).take 4 = [x, y, z, w] := by
  refine ⟨b[p], b[p + 1], b[p + 2], b[p + 3], List.getElem?_eq_getElem _, List.getElem?_eq_getElem _, List.getElem?_eq_getElem _, List.getElem?_eq_getElem _, ?_⟩
  rw [List.drop_eq_getElem_cons (by omega), List.drop_eq_getElem_cons (i := p + 1) (by omega), List.drop_eq_getElem_cons (i := p + 2) (by omega), List.drop_eq_getElem_cons (i := p + 3) (by omega)]
  rfl
theorem bytes_getS {l : List Nat} {i x : Nat} (h : l[i]? = some x) : (bytes l)[i]? = some (.int .u8 (x : Int)) := by
  unfold bytes; rw [List.getElem?_map, h]; rfl
end Go.Ck
namespace Go.Ck
theorem ws56 : IntKind.i64.wrap 56 = 56 := by decide
theorem wsm1 : IntKind.i64.wrap (-1) = -1 := by decide
theorem wu0 : IntKind.u64.wrap 0 = 0 := by decide
theorem wu8 : IntKind.u64.wrap 8 = 8 := by decide
theorem wu16 : IntKind.u64.wrap 16 = 16 := by decide
theorem wu24 : IntKind.u64.wrap 24 = 24 := by decide
theorem wu32 : IntKind.u64.wrap 32 = 32 := by decide
theorem wu40 : IntKind.u64.wrap 40 = 40 := by decide
theorem wu48 : IntKind.u64.wrap 48 = 48 := by decide
theorem wu56 : IntKind.u64.wrap 56 = 56 := by decide
end Go.Ck
namespace Go.Ck
def adl (l0 l1 : List W32) (i : Nat) : List W32 := (List.range i).map fun j => wAt l0 j + wAt l1 j
theorem adl_succ (l0 l1 : List W32) (i : Nat) : adl l0 l1 i ++ [wAt l0 i + wAt l1 i] = adl l0 l1 (i + 1) := by
  simp [adl, List.range_succ]
theorem adl_len (l0 l1 : List W32) (i : Nat) : (adl l0 l1 i).length = i := by simp [adl]
theorem adl_8 (s r : S8) : adl s.l r.l 8 = (add8 s r).l := rfl
theorem fb_step (s : S8) (p : List Nat) (j : Nat) (h : 64 * (j + 1) ≤ p.length) : fb s (p.take (64 * (j + 1))) = thr (fb s (p.take (64 * j))) ((p.drop (64 * j)).take 64) := by
  have e : p.take (64 * (j + 1)) = p.take (64 * j) ++ (p.drop (64 * j)).take 64 := by
    rw [show 64 * (j + 1) = 64 * j + 64 by omega, List.take_add]
  have hl : ((p.drop (64 * j)).take 64).length = 64 := by simp; omega
  rw [e, fb_app j _ _ _ (by simp; omega), fb_ge (l := (p.drop (64 * j)).take 64) (by omega), List.take_of_length_le (l := (p.drop (64 * j)).take 64) (by omega), fb_lt (by rw [List.length_drop]; omega)]
end Go.Ck

set_option linter.unusedVariables false
set_option maxRecDepth 100000
set_option maxHeartbeats 400000
namespace Go.Ck
open Go.Proofs
theorem rot13_fn (x : W32) (n : Int) (m : Nat) (hn : n = m) (h0 : 0 < m) (h1 : m < 32) : Fn Try.prog 103 [] [.pv (wP x), .pv (.int .u64 n)] (fun rs H' => rs = [.pv (wP (rotW x m))] ∧ H' = []) := by
  subst hn
  refine Fn.of_body (fn := Try.f103) (n := 13) (res := [.tmp 4]) (by kernel_rfl) rfl rfl rfl rfl rfl (fun C => ?_)
  have e2 : IntKind.u64.wrap (32 - (m : Int)) = ((32 - m : Nat) : Int) := by rw [IntKind.wrap_u64]; omega
  have s1 := w32_shr x m (by omega)
  have s2 := w32_shl x (32 - m) (by omega)
  have s3 := rotW_ref x m
  unfold wP
  refine AW.go ?_ (by simp only [go_sem, ↓reduceIte, e2, s1, s2, w32_or, s3] <;> rfl)
  refine AW.finE (.pv _ .nil) rfl
theorem const13_fn : Fn Try.prog 84 [] [] (fun rs H' => rs = [.pv (.sl 1 (wds ktab)), .own 116 (wds first8.l)] ∧ H' = []) := by
  refine Fn.of_body (fn := Try.f84) (n := 8) (res := [.tmp 0, .tmp 1]) (by kernel_rfl) rfl rfl rfl rfl rfl (fun C => ?_)
  have m64 : (64 ≤ maxLen) = True := eq_true (le_maxLen 64)
  have m8 : (8 ≤ maxLen) = True := eq_true (le_maxLen 8)
  refine AW.goM 20 ?_ (by simp only [go_sem, ↓reduceIte, m64, m8] <;> rfl)
  refine AW.freeze (p := .slot 2) (by simp only [go_sem, ↓reduceIte, freeze, freezeO] <;> rfl) ?_
  refine AW.go ?_ (by simp only [go_sem, ↓reduceIte, m64, m8] <;> rfl)
  refine AW.finE (.pv _ (.move rfl .nil)) ?_
  kernel_rfl

theorem padded_fn (m : List Nat) (hm : m.length < 2 ^ 30) : Fn Try.prog 85 [] [.pv (.sl 1 (bytes m))] (fun rs H' => rs = [.own 5 (bytes (m ++ endP m.length))] ∧ H' = []) := by
  refine Fn.of_body (fn := Try.f85) (n := 36) (res := [.tmp 2]) (by kernel_rfl) rfl rfl rfl rfl rfl (fun C => ?_)
  have hroom : room = 140737488355328 := rfl
  have a1 : m.length ≤ room := by omega
  have a2 : m.length + 1 ≤ room := by omega
  have hb0 : bytes m ++ [.int .u8 128] = bytes (m ++ (128 :: List.replicate 0 0)) := by rw [← bytes_append]; rfl
  refine AW.go ?_ (by simp only [go_sem, ↓reduceIte, a1, a2, le_maxLen0, Nat.zero_mul, Nat.zero_add, hb0, List.nil_append] <;> rfl)
  refine AW.loopS (fun j : Nat => ⟨36, [(0, .pv (.sl 1 (bytes m))), (3, .own 5 (bytes (m ++ (128 :: List.replicate j 0))))], []⟩) (fun j => j ≤ zpad m.length) (fun j => zpad m.length - j) [0, 3] [] 0 (Nat.zero_le _) ?_
  rintro j hj K hK
  have hzp : zpad m.length = (119 - m.length % 64) % 64 := rfl
  have hql : (m ++ (128 :: List.replicate j 0)).length = m.length + (j + 1) := by simp
  have hqn : (m ++ (128 :: List.replicate j 0)) ++ [0] = m ++ (128 :: List.replicate (j + 1) 0) := by rw [List.replicate_succ']; simp
  generalize hqq : m ++ (128 :: List.replicate j 0) = q at *
  have e2 : ((m.length + (j + 1) : Nat) : Int).tmod 64 = (((m.length + (j + 1)) % 64 : Nat) : Int) := rfl
  refine AW.go ?_ (by simp only [go_sem, ↓reduceIte, hql, e2] <;> rfl)
  refine AW.cond rfl (fun hc => ?_) (fun hc => ?_)
  · have hne : (m.length + (j + 1)) % 64 ≠ 56 := by
      intro h
      rw [h] at hc
      exact absurd hc (by decide)
    have r1 : q.length + 1 ≤ room := by omega
    refine AW.go ?_ (by simp only [go_sem, ↓reduceIte, bytes_snoc0, r1] <;> rfl)
    exact AW.again hK (j + 1) (by omega) (by omega) (hs := by simp only [go_sem, ↓reduceIte, hqn] <;> rfl)
  have hjz : j = zpad m.length := by
    have : (m.length + (j + 1)) % 64 = 56 := by
      have h2 : ((((m.length + (j + 1)) % 64 : Nat) : Int) == 56) = true := by simpa [bne] using hc
      have := eq_of_beq h2
      omega
    omega
  subst hjz
  have ew : IntKind.u64.wrap (m.length : Int) = (m.length : Int) := wrap_u64_lt (by omega)
  have em : IntKind.u64.wrap ((m.length : Int) * 8) = ((m.length * 8 : Nat) : Int) := by rw [show (m.length : Int) * 8 = ((m.length * 8 : Nat) : Int) by omega]; exact wrap_u64_lt (by omega)
  refine AW.go ?_ (by simp only [go_sem, ↓reduceIte, ew, em] <;> rfl)
  have hv : m.length * 8 < 2 ^ 33 := by omega
  have hend : q ++ be8 (m.length * 8) = m ++ endP m.length := by rw [← hqq]; simp [endP]
  generalize m.length * 8 = v at *
  refine AW.loopS (fun i : Nat => ⟨36, [(4, .pv (.int .u64 v)), (5, .pv (.int .i64 (7 - (i : Int)))), (3, .own 5 (bytes (encE q v i)))], []⟩) (fun i => i ≤ 8) (fun i => 8 - i) [4, 5, 3] [] 0 (Nat.zero_le _) ?_ (hs := by simp only [go_sem, ↓reduceIte, encE0] <;> rfl)
  rintro i hi K2 hK2
  have hel := encE_len q v i hi
  have r3 : (encE q v i).length + 1 ≤ room := by omega
  have hcase : i = 8 ∨ i = 0 ∨ i = 1 ∨ i = 2 ∨ i = 3 ∨ i = 4 ∨ i = 5 ∨ i = 6 ∨ i = 7 := by omega
  rcases hcase with rfl | hcase
  · refine AW.go ?_
    refine AW.condF rfl ?_
    rw [encE8, hend]
    refine AW.go ?_
    refine AW.finE (.move rfl .nil) rfl
  rcases hcase with rfl | rfl | rfl | rfl | rfl | rfl | rfl | rfl
  all_goals
    refine AW.go ?_ (by simp only [go_sem, ↓reduceIte, nc0, nc1, nc2, nc3, nc4, nc5, nc6, nc7, Int.reduceMul, Int.reduceSub] <;> rfl)
    refine AW.condT rfl ?_
    refine AW.go ?_ (by simp only [go_sem, ↓reduceIte, bK_56, bK_48, bK_40, bK_32, bK_24, bK_16, bK_8, bK_0, bytes_snoc, encK_0, encK_1, encK_2, encK_3, encK_4, encK_5, encK_6, encK_7, r3, Int.reduceSub, Int.reduceMul, Int.reduceAdd, ws48, ws40, ws32, ws24, ws16, ws8, ws0, ws56, wr1, wr2, wr3, wr4, wr5, wr6, wr7, wsm1, wu0, wu8, wu16, wu24, wu32, wu40, wu48, wu56] <;> rfl)
    first
      | exact AW.again hK2 1 (by decide) (by decide)
      | exact AW.again hK2 2 (by decide) (by decide)
      | exact AW.again hK2 3 (by decide) (by decide)
      | exact AW.again hK2 4 (by decide) (by decide)
      | exact AW.again hK2 5 (by decide) (by decide)
      | exact AW.again hK2 6 (by decide) (by decide)
      | exact AW.again hK2 7 (by decide) (by decide)
      | exact AW.again hK2 8 (by decide) (by decide)

theorem words_fn (b : List Nat) (hb : b.length = 64) : Fn Try.prog 102 [] [.pv (.sl 1 (bytes b))] (fun rs H' => rs = [.own 116 (wds (sched b))] ∧ H' = []) := by
  refine Fn.of_body (fn := Try.f102) (n := 99) (res := [.tmp 2]) (by kernel_rfl) rfl rfl rfl rfl rfl (fun C => ?_)
  have hroom : room = 140737488355328 := rfl
  refine AW.go ?_
  refine AW.loopS (fun i : Nat => ⟨99, [(0, .pv (.sl 1 (bytes b))), (4, .pv (.int .i64 i)), (3, .own 116 (wds (spW b i)))], []⟩) (fun i => i ≤ 16) (fun i => 16 - i) [0, 4, 3] [] 0 (Nat.zero_le _) ?_
  rintro i hi K hK
  have hsl : (spW b i).length = i := spW_len b i
  refine AW.go ?_
  refine AW.cond rfl (fun hc => ?_) (fun hc => ?_)
  · have h16 : i < 16 := by have := of_decide_eq_true hc; omega
    obtain ⟨p, hp⟩ : ∃ p, p = 4 * i := ⟨_, rfl⟩
    obtain ⟨x, y, z, w, qx, qy, qz, qw, hq⟩ := drop4 b p (by omega)
    have hx := bytes_getS qx
    have hy := bytes_getS qy
    have hz := bytes_getS qz
    have hw := bytes_getS qw
    have e1 : IntKind.i64.wrap (4 * (i : Int)) = (p : Int) := by rw [wrap_i64_of (by omega) (by omega)]; omega
    have e2 : IntKind.i64.wrap ((p : Int) + 1) = ((p + 1 : Nat) : Int) := by rw [wrap_i64_of (by omega) (by omega)]; omega
    have e3 : IntKind.i64.wrap ((p : Int) + 2) = ((p + 2 : Nat) : Int) := by rw [wrap_i64_of (by omega) (by omega)]; omega
    have e4 : IntKind.i64.wrap ((p : Int) + 3) = ((p + 3 : Nat) : Int) := by rw [wrap_i64_of (by omega) (by omega)]; omega
    have r1 : ((spW b i).length + 1) * 4 ≤ room := by omega
    have r2 : (spW b i).length + 1 ≤ room := by omega
    have hd4 : spW b i ++ [((BitVec.ofNat 32 x <<< 24) ||| (BitVec.ofNat 32 y <<< 16)) ||| (BitVec.ofNat 32 z <<< 8) ||| BitVec.ofNat 32 w] = spW b (i + 1) := by
      rw [wd4_ref, ← hq, hp]; simp only [spW, h16, if_true]
    refine AW.go ?_
    refine AW.calmS ?_
    refine CK.reads [[], [], [], [16], [15, 17], [18], [19], [20], [], [], [23], [24], [22, 25], [26], [27], [28], [21, 29], [], [], [32], [33], [31, 34], [35], [36], [37], [30, 38], [], [], [41], [42], [40, 43], [44], [45], [39, 46]] ?_ (by simp only [go_sem, ↓reduceIte, e1, e2, e3, e4, hx, hy, hz, hw, hb, wrap_u32w, w32_shl24, w32_shl16, w32_shl8, w32_or] <;> rfl)
    refine CK.list [47] ?_
    refine CK.done (M := 35) 2 mixed ?_
    refine AW.seqs (fuel := 0) (listed' := Array.replicate 37 true) [35, 36] ?_ (by decide +kernel)
    -- 35: t49 := call append(t14, t48)
    -- 36: t3 := = t49
    refine AW.gg ?_ (by simp only [go_sem, ↓reduceIte, wds_snoc, r1, r2, hd4] <;> rfl)
    refine AW.anyDone (by decide +kernel) ?_
    have e6 : IntKind.i64.wrap ((i : Int) + 1) = ((i + 1 : Nat) : Int) := wrap_i64_succ (by omega)
    refine AW.go ?_ (by simp only [go_sem, ↓reduceIte, e6] <;> rfl)
    exact AW.again hK (i + 1) (by omega) (by omega)
  have h16 : i = 16 := by have := of_decide_eq_false hc; omega
  subst h16
  refine AW.go ?_
  refine AW.loopS (fun i : Nat => ⟨99, [(5, .pv (.int .i64 i)), (3, .own 116 (wds (spW b i)))], []⟩) (fun i => 16 ≤ i ∧ i ≤ 64) (fun i => 64 - i) [5, 3] [] 16 (by omega) ?_
  rintro i ⟨h16, h64⟩ K2 hK2
  have hsl : (spW b i).length = i := spW_len b i
  refine AW.go ?_
  refine AW.cond rfl (fun hc => ?_) (fun hc => ?_)
  rotate_left
  · have hge : i = 64 := by have := of_decide_eq_false hc; omega
    subst hge
    refine AW.go ?_
    refine AW.finE (.move rfl .nil) rfl
  have hlt : i < 64 := by have := of_decide_eq_true hc; omega
  obtain ⟨i15, h15⟩ : ∃ k, k = i - 15 := ⟨_, rfl⟩
  obtain ⟨i2, h2⟩ : ∃ k, k = i - 2 := ⟨_, rfl⟩
  obtain ⟨i16, h16'⟩ : ∃ k, k = i - 16 := ⟨_, rfl⟩
  obtain ⟨i7, h7⟩ : ∃ k, k = i - 7 := ⟨_, rfl⟩
  have a15 : IntKind.i64.wrap ((i : Int) - 15) = (i15 : Int) := by rw [wrap_i64_of (by omega) (by omega)]; omega
  have a2 : IntKind.i64.wrap ((i : Int) - 2) = (i2 : Int) := by rw [wrap_i64_of (by omega) (by omega)]; omega
  have a16 : IntKind.i64.wrap ((i : Int) - 16) = (i16 : Int) := by rw [wrap_i64_of (by omega) (by omega)]; omega
  have a7 : IntKind.i64.wrap ((i : Int) - 7) = (i7 : Int) := by rw [wrap_i64_of (by omega) (by omega)]; omega
  have g15 : (wds (spW b i))[i15]? = some (.int .u32 ((wAt (spW b i) i15).toNat : Int)) := wds_get (by omega)
  have g2 : (wds (spW b i))[i2]? = some (.int .u32 ((wAt (spW b i) i2).toNat : Int)) := wds_get (by omega)
  have g16 : (wds (spW b i))[i16]? = some (.int .u32 ((wAt (spW b i) i16).toNat : Int)) := wds_get (by omega)
  have g7 : (wds (spW b i))[i7]? = some (.int .u32 ((wAt (spW b i) i7).toNat : Int)) := wds_get (by omega)
  have hnext : spW b i ++ [(rotW (wAt (spW b i) i2) 17 ^^^ rotW (wAt (spW b i) i2) 19 ^^^ wAt (spW b i) i2 >>> 10) + wAt (spW b i) i7 + (rotW (wAt (spW b i) i15) 7 ^^^ rotW (wAt (spW b i) i15) 18 ^^^ wAt (spW b i) i15 >>> 3) + wAt (spW b i) i16] = spW b (i + 1) := by
    have h0 : ¬ i < 16 := by omega
    rw [nextW_ref]
    simp only [spW, h0, if_false, nextW, sg0, sg1, hsl, h15, h2, h16', h7]
  have r1 : ((spW b i).length + 1) * 4 ≤ room := by omega
  have r2 : (spW b i).length + 1 ≤ room := by omega
  generalize wAt (spW b i) i15 = y at *
  generalize wAt (spW b i) i2 = x at *
  generalize wAt (spW b i) i16 = u at *
  generalize wAt (spW b i) i7 = v at *
  have l15 : (i15 < i) = True := eq_true (by omega)
  have l2 : (i2 < i) = True := eq_true (by omega)
  have l16 : (i16 < i) = True := eq_true (by omega)
  have l7 : (i7 < i) = True := eq_true (by omega)
  refine AW.go ?_ (by simp only [go_sem, ↓reduceIte, a15, a2, g15, g2, hsl, l15, l2] <;> rfl)
  refine AW.callE (fun _ => 0) (rot13_fn x 17 17 rfl (by decide) (by decide)) (.pv _ (.pv _ .nil)) ?_
  refine AW.go ?_
  refine AW.callE (fun _ => 0) (rot13_fn x 19 19 rfl (by decide) (by decide)) (.pv _ (.pv _ .nil)) ?_
  refine AW.go ?_ (by simp only [go_sem, ↓reduceIte, wP, w32_xor, w32_shr10] <;> rfl)
  refine AW.callE (fun _ => 0) (rot13_fn y 7 7 rfl (by decide) (by decide)) (.pv _ (.pv _ .nil)) ?_
  refine AW.go ?_
  refine AW.callE (fun _ => 0) (rot13_fn y 18 18 rfl (by decide) (by decide)) (.pv _ (.pv _ .nil)) ?_
  refine AW.go ?_ (by simp only [go_sem, ↓reduceIte, wP, w32_xor, w32_shr3] <;> rfl)
  refine AW.calmS ?_
  refine CK.reads [[], [], [], [], [83], [82, 84], [85], [81, 86], [], [87, 88], [], [], [91], [90, 92], [93], [89, 94]] ?_ (by simp only [go_sem, ↓reduceIte, a16, a7, g16, g7, w32_add, hsl, l16, l7] <;> rfl)
  refine CK.list [95] ?_
  refine CK.done (M := 17) 2 mixed ?_
  refine AW.seqs (fuel := 0) (listed' := Array.replicate 19 true) [17, 18] ?_ (by decide +kernel)
  -- 17: t97 := call append(t80, t96)
  -- 18: t3 := = t97
  refine AW.gg ?_ (by simp only [go_sem, ↓reduceIte, wds_snoc, r1, r2, hnext] <;> rfl)
  refine AW.anyDone (by decide +kernel) ?_
  have e6 : IntKind.i64.wrap ((i : Int) + 1) = ((i + 1 : Nat) : Int) := wrap_i64_succ (by omega)
  refine AW.go ?_ (by simp only [go_sem, ↓reduceIte, e6] <;> rfl)
  exact AW.again hK2 (i + 1) (by omega) (by omega)
end Go.Ck

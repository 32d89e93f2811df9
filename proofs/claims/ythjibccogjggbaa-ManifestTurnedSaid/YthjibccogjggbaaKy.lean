/- What is proved here: parts of the proofs of this seat's statements (a verified evaluator for calls over pure values, its laws, and contracts of functions). No condition. -/
import Derived.Test.YthjibccogjggbaaKx
import Derived.Test.YthjibccogjggbaaKm
import Derived.Test.YthjibccogjggbaaKu
set_option linter.all false
set_option linter.unusedVariables false
namespace Go.Ck
theorem encM_ok {m : Man} (h : (encM m).2 = 0) : wrongM m = 0 ∧ (encM m).1 = bodyM m := by
  unfold encM at h ⊢
  split at h
  · rename_i h1; exact absurd h h1
  · rename_i h1
    rw [if_neg h1]
    exact ⟨by simpa using h1, rfl⟩
theorem bodyM_byte {m : Man} (h : wrongM m = 0) (hp : ∀ x ∈ m.prev, x < 256) (hr : ∀ x ∈ m.root, x < 256) : ∀ x ∈ bodyM m, x < 256 := by
  obtain ⟨w1, w2, w3, w4, w5, w6⟩ := wrongM_zero h
  intro x hx
  unfold bodyM headM at hx
  simp only [List.mem_append, List.mem_flatMap] at hx
  rcases hx with (((((((hx | hx) | hx) | hx) | ⟨s, _, hx⟩) | hx) | ⟨e, he, hx⟩) | hx)
  · revert x; decide
  · exact beB_byte _ _ x hx
  · exact hp x hx
  · exact leb_byte _ x hx
  · unfold blkS at hx
    rcases List.mem_append.1 hx with hx | hx
    · exact leb_byte _ x hx
    · exact nb_byte s x hx
  · exact leb_byte _ x hx
  · unfold entB at hx
    rcases List.mem_append.1 hx with hx | hx
    · exact leb_byte _ x hx
    · have h8 := w4 e he
      have : x = e.2.toNat := by simpa using hx
      omega
  · exact hr x hx
theorem encM_byte {m : Man} (hp : ∀ x ∈ m.prev, x < 256) (hr : ∀ x ∈ m.root, x < 256) : ∀ x ∈ (encM m).1, x < 256 := by
  unfold encM
  split
  · simp
  · rename_i h
    exact bodyM_byte (by simpa using h) hp hr
end Go.Ck

set_option linter.unusedVariables false
set_option maxRecDepth 100000
set_option maxHeartbeats 400000
namespace Go.Ck
open Go.Proofs
theorem check_fn (key b : List Nat) (hkb : ∀ x ∈ key, x < 256) (hl : b.length ≤ 2 ^ 40) (hb : ∀ x ∈ b, x < 256) : Fn Try.prog 18 [] [.pv (.sl 1 (bytes key)), .pv (.sl 1 (bytes b))] (fun rs H' => rs = [.pv (manP (checkM key b).1), .pv (.int .i64 (checkM key b).2)] ∧ H' = []) := by
  refine Fn.of_body (fn := Try.f18) (n := 43) (res := [.cell 4 26, .tmp 5]) (by kernel_rfl) rfl rfl rfl rfl rfl (fun C => ?_)
  have hroom : room = 140737488355328 := rfl
  have hkb2 := dk_lt key 4 []
  have hkl2 := dk_len key 4 []
  unfold checkM
  refine AW.go ?_
  refine AW.callE (fun _ => 0) (keyM_fn key hkb) (.pv _ .nil) ?_
  generalize dk key 4 [] = D at *
  obtain ⟨k, ke⟩ := D
  simp only at hkb2 hkl2
  simp only
  have e32 : IntKind.i64.wrap ((b.length : Int) - 32) = (b.length : Int) - 32 := wrap_i64_of (by omega) (by omega)
  by_cases hk0 : ke = 0
  · subst hk0
    have k0 : (((0 : Nat) : Int) != 0) = false := rfl
    rw [if_neg (by simp)]
    by_cases h32 : b.length < 32
    · rw [if_pos h32]
      have d1 : decide ((b.length : Int) - 32 < 0) = true := decide_eq_true (by omega)
      refine AW.go ?_ (by simp only [go_sem, ↓reduceIte, e32, k0] <;> rfl)
      refine AW.condF rfl ?_
      refine AW.go ?_ (by simp only [go_sem, ↓reduceIte, d1] <;> rfl)
      refine AW.condT rfl ?_
      refine AW.go ?_
      refine AW.nilsOwnAt (.cell 4 1) 5 ?_
      refine AW.freeze (p := .cell 4 1) (by simp only [go_sem, ↓reduceIte, freeze, freezeO] <;> rfl) ?_
      refine AW.nilsOwnAt (.cell 4 2) 38 ?_
      refine AW.freeze (p := .cell 4 2) (by simp only [go_sem, ↓reduceIte, freeze, freezeO] <;> rfl) ?_
      refine AW.nilsOwnAt (.cell 4 3) 5 ?_
      refine AW.freeze (p := .cell 4 3) (by simp only [go_sem, ↓reduceIte, freeze, freezeO] <;> rfl) ?_
      refine AW.finE (.pv _ (.pv _ .nil)) rfl
    rw [if_neg h32]
    obtain ⟨n, hn⟩ : ∃ n, b.length = n + 32 := ⟨b.length - 32, by omega⟩
    have hn2 : b.length - 32 = n := by omega
    rw [hn2]
    have e33 : IntKind.i64.wrap ((b.length : Int) - 32) = (n : Int) := by rw [e32]; omega
    have d1 : decide ((n : Int) < 0) = false := decide_eq_false (by omega)
    have hnl : (n ≤ b.length) = True := eq_true (by omega)
    have htk : (bytes b).take n = bytes (b.take n) := by rw [bytes_take]
    have hdr : (bytes b).drop n = bytes (b.drop n) := by rw [bytes_drop]
    have htB : (bytes (b.drop n)).take ((b.length : Int) - (n : Int)).toNat = bytes (b.drop n) := List.take_of_length_le (by rw [bytes_length, List.length_drop]; omega)
    have hcf := hCheck_fn k (b.take n) (b.drop n) hkb2 (by omega) (by rw [List.length_take]; omega) (fun x hx => hb x (List.mem_of_mem_drop hx))
    have hdf := manDec_fn (b.take n) (by rw [List.length_take]; omega) (fun x hx => hb x (List.mem_of_mem_take hx))
    refine AW.go ?_ (by simp only [go_sem, ↓reduceIte, e33, k0] <;> rfl)
    refine AW.condF rfl ?_
    refine AW.go ?_ (by simp only [go_sem, ↓reduceIte, d1] <;> rfl)
    refine AW.condF rfl ?_
    refine AW.go ?_
    refine AW.calmS ?_
    refine CK.reads [[], [], [], [28, 29], [], [], [31, 32]] ?_ (by simp only [go_sem, ↓reduceIte, hnl, htk, hdr, htB] <;> rfl)
    refine CK.call (ps := [.sl 1 (bytes k), .sl 1 (bytes (b.take n)), .sl 1 (bytes (b.drop n))]) [27, 30, 33] hcf ?_
    by_cases hmc : hmac k (b.take n) = b.drop n
    · rw [decide_eq_true hmc, if_neg (by simpa using hmc)]
      refine CK.reads [[34]] ?_ (by simp only [go_sem, ↓reduceIte] <;> rfl)
      refine CK.done (M := 9) 1 mixed ?_
      refine AW.seqs (fuel := 0) (listed' := Array.replicate 10 true) [9] ?_ (by decide +kernel)
      refine AW.gg ?_
      refine AW.anyDone (by decide +kernel) ?_
      refine AW.go ?_
      refine AW.condF rfl ?_
      generalize decM (b.take n) = D2 at *
      obtain ⟨⟨v2, p2, es2, r2⟩, e2⟩ := D2
      have hm := manP_mk v2 p2 es2 r2
      simp only at hdf
      rw [hm] at hdf
      simp only
      rw [hm]
      refine AW.go ?_ (by simp only [go_sem, ↓reduceIte, hnl, htk] <;> rfl)
      refine AW.callE (fun _ => 0) hdf (.pv _ .nil) ?_
      refine AW.go ?_
      refine AW.finE (.pv _ (.pv _ .nil)) rfl
    · rw [decide_eq_false hmc, if_pos hmc]
      refine CK.reads [[34]] ?_ (by simp only [go_sem, ↓reduceIte] <;> rfl)
      refine CK.done (M := 9) 1 mixed ?_
      refine AW.seqs (fuel := 0) (listed' := Array.replicate 10 true) [9] ?_ (by decide +kernel)
      refine AW.gg ?_
      refine AW.anyDone (by decide +kernel) ?_
      refine AW.go ?_
      refine AW.condT rfl ?_
      refine AW.go ?_
      refine AW.nilsOwnAt (.cell 4 1) 5 ?_
      refine AW.freeze (p := .cell 4 1) (by simp only [go_sem, ↓reduceIte, freeze, freezeO] <;> rfl) ?_
      refine AW.nilsOwnAt (.cell 4 2) 38 ?_
      refine AW.freeze (p := .cell 4 2) (by simp only [go_sem, ↓reduceIte, freeze, freezeO] <;> rfl) ?_
      refine AW.nilsOwnAt (.cell 4 3) 5 ?_
      refine AW.freeze (p := .cell 4 3) (by simp only [go_sem, ↓reduceIte, freeze, freezeO] <;> rfl) ?_
      refine AW.finE (.pv _ (.pv _ .nil)) rfl
  · have k0 : ((ke : Int) != 0) = true := by rw [bne_iff_ne]; omega
    rw [if_pos hk0]
    refine AW.go ?_ (by simp only [go_sem, ↓reduceIte, e32, k0] <;> rfl)
    refine AW.condT rfl ?_
    refine AW.go ?_
    refine AW.nilsOwnAt (.cell 4 1) 5 ?_
    refine AW.freeze (p := .cell 4 1) (by simp only [go_sem, ↓reduceIte, freeze, freezeO] <;> rfl) ?_
    refine AW.nilsOwnAt (.cell 4 2) 38 ?_
    refine AW.freeze (p := .cell 4 2) (by simp only [go_sem, ↓reduceIte, freeze, freezeO] <;> rfl) ?_
    refine AW.nilsOwnAt (.cell 4 3) 5 ?_
    refine AW.freeze (p := .cell 4 3) (by simp only [go_sem, ↓reduceIte, freeze, freezeO] <;> rfl) ?_
    refine AW.finE (.pv _ (.pv _ .nil)) rfl
end Go.Ck

set_option linter.unusedVariables false
namespace Go.Ck
theorem rdv_ne5 : ∀ (l : List Nat) (k acc : Nat), (rdv k acc l).2.2 ≠ 5
  | [], k, acc => by simp [rdv]
  | x :: r, k, acc => by
    unfold rdv
    split
    · simp [noM]
    · split
      · exact rdv_ne5 r _ _
      · split
        · simp [noM]
        · simp
theorem readV_ne5 (l : List Nat) : (readV l).2.2 ≠ 5 := rdv_ne5 _ _ _
theorem blk_ne5 (l : List Nat) (m : Nat) : (blk l m).2.1 ≠ 5 := by
  unfold blk
  split
  · exact readV_ne5 l
  · split
    · simp [noM]
    · split
      · simp [noM]
      · simp
theorem cntD_ne5 (q : List Nat) : (cntD q).2.1 ≠ 5 := by
  unfold cntD
  split
  · exact readV_ne5 q
  · split
    · simp [noM]
    · simp
theorem tnD_ne5 : ∀ (n : Nat) (acc : List (List UInt8)) (q : List Nat), (tnD n acc q).2.1 ≠ 5
  | 0, acc, q => by simp [tnD]
  | n + 1, acc, q => by
    unfold tnD
    split
    · exact blk_ne5 _ _
    · split
      · exact tnD_ne5 n _ _
      · simp [noM]
theorem enD_ne5 (ts : List (List UInt8)) : ∀ (n : Nat) (acc : List Ent) (q : List Nat), (enD ts n acc q).2.1 ≠ 5
  | 0, acc, q => by simp [enD]
  | n + 1, acc, q => by
    unfold enD
    split
    · exact readV_ne5 _
    · split
      · simp [noM]
      · split
        · simp [noM]
        · split
          · simp [noM]
          · exact enD_ne5 ts n _ _
theorem tensD_ne5 (q : List Nat) : (tensD q).2.1 ≠ 5 := by
  unfold tensD
  split
  · exact cntD_ne5 q
  · exact tnD_ne5 _ _ _
theorem entsD_ne5 (ts : List (List UInt8)) (q : List Nat) : (entsD ts q).2.1 ≠ 5 := by
  unfold entsD
  split
  · exact cntD_ne5 q
  · exact enD_ne5 _ _ _ _
theorem decM_ne5 (b : List Nat) : (decM b).2 ≠ 5 := by
  unfold decM
  split
  · simp [noM]
  split
  · simp [noM]
  unfold decM1
  split
  · simp [noM]
  split
  · simp [noM]
  unfold decM2
  split
  · simp [noM]
  unfold decM3
  split
  · exact tensD_ne5 _
  unfold decM4
  split
  · exact entsD_ne5 _ _
  unfold decM5
  split
  · simp [noM]
  split
  · simp [noM]
  split
  · simp [noM]
  · simp
theorem dk_32 {key : List Nat} (h : key.length = 32) : (dk key 4 []).2 = 0 := by
  unfold dk; rw [if_neg (by simpa using h), if_neg (by simp)]
theorem signM_len (key : List Nat) (m : Man) (hv : m.v < 2 ^ 64) : (signM key m).1.length ≤ 2 ^ 28 + 32 := by
  have := encM_len m hv
  unfold signM
  split
  · simp
  · split
    · simp
    · rw [List.length_append, hmac_len]; omega
theorem signM_ge {key : List Nat} {m : Man} (h : (signM key m).2 = 0) : 32 ≤ (signM key m).1.length := by
  unfold signM at h ⊢
  split at h
  · rename_i h1; simp only at h; omega
  · rename_i h1
    rw [if_neg h1]
    split at h
    · rename_i h2; simp only at h; omega
    · rename_i h2
      rw [if_neg h2, List.length_append, hmac_len]; omega
theorem signM_bad {key : List Nat} {m : Man} (h : (signM key m).2 ≠ 0) : (signM key m).1 = [] := by
  unfold signM at h ⊢
  split
  · rfl
  · rename_i h1
    rw [if_neg h1] at h
    split
    · rfl
    · rename_i h2
      rw [if_neg h2] at h
      exact absurd rfl h
theorem signM_byte {key : List Nat} {m : Man} (hp : ∀ x ∈ m.prev, x < 256) (hr : ∀ x ∈ m.root, x < 256) : ∀ x ∈ (signM key m).1, x < 256 := by
  unfold signM
  split
  · simp
  · split
    · simp
    · intro x hx
      rcases List.mem_append.1 hx with hx | hx
      · exact encM_byte hp hr x hx
      · exact hmac_lt _ _ x hx
end Go.Ck

set_option linter.unusedVariables false
set_option maxRecDepth 100000
set_option maxHeartbeats 400000
namespace Go.Ck
open Go.Proofs
theorem law21turned_fn (key : List Nat) (m : Man) (c : Int) (x : Nat) (hx : x < 256) (hkl : key.length ≤ maxLen) (hkb : ∀ x ∈ key, x < 256) (hv : m.v < 2 ^ 64) (hl : m.es.length < 2 ^ 63) (hpb : ∀ x ∈ m.prev, x < 256) (hrb : ∀ x ∈ m.root, x < 256) :
    Fn Try.prog 8 [] [.pv (.sl 1 (bytes key)), .pv (manP m), .pv (.int .i64 c), .pv (.int .u8 x)] (fun rs H' => rs = [.pv (.bool true)] ∧ H' = []) := by
  refine Fn.of_body (fn := Try.f8) (n := 102) (res := [.tmp 8]) (by kernel_rfl) rfl rfl rfl rfl rfl (fun C => ?_)
  have hroom : room = 140737488355328 := rfl
  have hff := few_fn m hl
  have hm : manP m = .agg [.int .u64 (m.v : Int), .sl 1 (bytes m.prev), .sl 2 (entsP m.es), .sl 1 (bytes m.root)] := rfl
  rw [hm] at hff ⊢
  have d0 : ((key.length : Int) != 32) = !decide (key.length = 32) := by rw [Bool.eq_iff_iff]; simp; omega
  have d0' : (key.length != 32) = !decide (key.length = 32) := by rw [Bool.eq_iff_iff]; simp
  refine AW.go ?_
  refine AW.callE (fun _ => 0) awake_fn .nil ?_
  refine AW.go ?_
  refine AW.callE (fun _ => 0) hff (.pv _ .nil) ?_
  cases hfb : fewM m with
  | false =>
    refine AW.gg ?_
    refine AW.condT rfl ?_
    refine AW.go ?_
    exact AW.finE (.pv _ .nil) rfl
  | true =>
  by_cases hk32 : key.length = 32
  case neg =>
    rw [decide_eq_false hk32] at d0 d0'
    refine AW.gg ?_ (by simp only [go_sem, ↓reduceIte, d0, d0', Bool.not_false] <;> rfl)
    refine AW.condT rfl ?_
    refine AW.go ?_
    exact AW.finE (.pv _ .nil) rfl
  rw [decide_eq_true hk32] at d0 d0'
  have f1 : m.es.length ≤ 100 := by unfold fewM at hfb; exact (of_decide_eq_true hfb).1
  have hsf := sign_fn key m hv (by omega) hkb
  have hS1 := signM_len key m hv
  have hS2 := signM_ge (key := key) (m := m)
  have hS3 := signM_bad (key := key) (m := m)
  have hS4 := signM_byte (key := key) hpb hrb
  rw [hm] at hsf
  generalize signM key m = SG at *
  obtain ⟨L, e⟩ := SG
  simp only at hsf hS1 hS2 hS3 hS4
  refine AW.gg ?_ (by simp only [go_sem, ↓reduceIte, d0, d0', Bool.not_true] <;> rfl)
  refine AW.condF rfl ?_
  refine AW.go ?_
  refine AW.callE (fun _ => 0) hsf (.pv _ (.pv _ .nil)) ?_
  refine AW.go ?_
  refine AW.cond rfl (fun hc => ?_) (fun hc => ?_)
  · have he : e ≠ 0 := by simpa using hc
    have hz := hS3 he
    have d1 : ((L.length : Int) == 0) = true := by rw [hz]; rfl
    refine AW.gg ?_ (by simp only [go_sem, ↓reduceIte, d1] <;> rfl)
    exact AW.finE (.pv _ .nil) rfl
  have he : e = 0 := by simpa using hc
  have h32 := hS2 he
  have d2 : decide ((L.length : Int) < 32) = false := decide_eq_false (by omega)
  have d2' : decide (L.length < 32) = false := decide_eq_false (by omega)
  have r1 : (L.length ≤ room) = True := eq_true (by omega)
  obtain ⟨mm, hmm, hme⟩ := and_low c 16 (by omega)
  have hme : ibits .and .i64 c 65535 = (mm : Int) := hme
  refine AW.go ?_ (by simp only [go_sem, ↓reduceIte, d2, d2'] <;> rfl)
  refine AW.condF rfl ?_
  have hL0 : ((L.length : Int) = 0) = False := eq_false (by omega)
  have hj : mm % L.length < L.length := Nat.mod_lt _ (by omega)
  have htm : Int.tmod (mm : Int) (L.length : Int) = ((mm % L.length : Nat) : Int) := by rw [Int.tmod_eq_emod_of_nonneg (by omega)]; rfl
  have wtm : IntKind.i64.wrap ((mm % L.length : Nat) : Int) = ((mm % L.length : Nat) : Int) := wrap_i64_nat (by omega)
  generalize hjj : mm % L.length = j at *
  have hLj : (j < L.length) = True := eq_true hj
  obtain ⟨y, hy⟩ : ∃ y, L[j]? = some y := ⟨L[j], List.getElem?_eq_getElem hj⟩
  have hyb : y < 256 := hS4 y (List.mem_of_getElem? hy)
  have hgy : (bytes L)[j]? = some (.int .u8 (y : Int)) := by unfold bytes; rw [List.getElem?_map, hy]; rfl
  have hxo := ibits_xor8 (a := y) (b := x) hyb hx
  refine AW.go ?_ (by simp only [go_sem, ↓reduceIte, List.length_nil, Nat.zero_add, List.nil_append, r1, hme, htm, wtm, hL0, hLj, hgy, hxo, bytes_set] <;> rfl)
  refine AW.freeze (p := .slot 12) (by simp only [go_sem, ↓reduceIte, freeze, freezeO] <;> rfl) ?_
  have hll : (L.set j (y ^^^ x)).length = L.length := List.length_set
  have hlb : ∀ z ∈ L.set j (y ^^^ x), z < 256 := fun z hz => by
    rcases List.mem_or_eq_of_mem_set hz with hz | rfl
    · exact hS4 z hz
    · exact Nat.xor_lt_two_pow (n := 8) hyb hx
  generalize L.set j (y ^^^ x) = L2 at *
  have hdk := dk_32 hk32
  have hkb2 := dk_lt key 4 []
  have hkl2 := dk_len key 4 []
  have hkf := keyM18_fn key hkb
  have hcf2 := check_fn key L2 hkb (by omega) hlb
  obtain ⟨n, hn⟩ : ∃ n, L2.length = n + 32 := ⟨L2.length - 32, by omega⟩
  have hcm : checkM key L2 = if hmac (dk key 4 []).1 (L2.take n) ≠ L2.drop n then noM 5 else decM (L2.take n) := by
    unfold checkM
    rw [if_neg (by rw [hdk]; simp), if_neg (by omega), show L2.length - 32 = n by omega]
  rw [hdk] at hkf
  generalize (dk key 4 []).1 = k at *
  have hcf := check14_fn k (L2.take n) (L2.drop n) hkb2 (by omega) (by rw [List.length_take]; omega)
  have e33 : IntKind.i64.wrap ((L2.length : Int) - 32) = (n : Int) := by rw [wrap_i64_of (by omega) (by omega)]; omega
  have hnl : (n ≤ L2.length) = True := eq_true (by omega)
  have htk : (bytes L2).take n = bytes (L2.take n) := by rw [bytes_take]
  have hdr : (bytes L2).drop n = bytes (L2.drop n) := by rw [bytes_drop]
  have htB : (bytes (L2.drop n)).take ((L2.length : Int) - (n : Int)).toNat = bytes (L2.drop n) := List.take_of_length_le (by rw [bytes_length, List.length_drop]; omega)
  refine AW.callE (fun _ => 0) hkf (.pv _ .nil) ?_
  refine AW.go ?_ (by simp only [go_sem, ↓reduceIte, e33] <;> rfl)
  refine AW.calmS ?_
  refine CK.reads [[], [], [], [73, 74], [], [], [76, 77]] ?_ (by simp only [go_sem, ↓reduceIte, hnl, htk, hdr, htB] <;> rfl)
  refine CK.call (ps := [.sl 1 (bytes k), .sl 1 (bytes (L2.take n)), .sl 1 (bytes (L2.drop n))]) [72, 75, 78] hcf ?_
  refine CK.done (M := 8) 1 mixed ?_
  refine AW.seqs (fuel := 0) (listed' := Array.replicate 9 true) [8] ?_ (by decide +kernel)
  refine AW.gg ?_
  refine AW.anyDone (by decide +kernel) ?_
  refine AW.go ?_
  refine AW.callE (fun _ => 0) hcf2 (.pv _ (.pv _ .nil)) ?_
  rw [hcm]
  by_cases hmc : hmac k (L2.take n) = L2.drop n
  · rw [if_neg (by simpa using hmc)]
    have h5 := decM_ne5 (L2.take n)
    generalize decM (L2.take n) = D2 at *
    obtain ⟨⟨v2, p2, es2, r2⟩, e2⟩ := D2
    have hm2 := manP_mk v2 p2 es2 r2
    simp only at h5 ⊢
    rw [hm2, decide_eq_true hmc]
    have d5 : (e2 != 5) = true := by simpa using h5
    refine AW.go ?_
    refine AW.gg ?_ (by simp only [go_sem, ↓reduceIte, d5] <;> rfl)
    exact AW.finE (.pv _ .nil) rfl
  · rw [if_pos hmc, decide_eq_false hmc]
    have hm2 := manP_mk 0 [] [] []
    have d5 : ((5 : Int) == 5) = true := rfl
    unfold noM
    simp only
    rw [hm2]
    refine AW.go ?_
    refine AW.gg ?_ (by simp only [go_sem, ↓reduceIte, d5] <;> rfl)
    exact AW.finE (.pv _ .nil) rfl
end Go.Ck

set_option linter.unusedVariables false
set_option maxRecDepth 100000
set_option maxHeartbeats 400000
namespace Go.Ck
open Go.Proofs
theorem law21back_fn (key : List Nat) (m : Man) (c : Int) (hkl : key.length ≤ maxLen) (hkb : ∀ x ∈ key, x < 256) (hv : m.v < 2 ^ 64) (hl : m.es.length < 2 ^ 63) (hpb : ∀ x ∈ m.prev, x < 256) (hrb : ∀ x ∈ m.root, x < 256) :
    Fn Try.prog 7 [] [.pv (.sl 1 (bytes key)), .pv (manP m), .pv (.int .i64 c)] (fun rs H' => rs = [.pv (.bool true)] ∧ H' = []) := by
  refine Fn.of_body (fn := Try.f7) (n := 126) (res := [.tmp 6]) (by kernel_rfl) rfl rfl rfl rfl rfl (fun C => ?_)
  have hroom : room = 140737488355328 := rfl
  have hff := few_fn m hl
  have hm : manP m = .agg [.int .u64 (m.v : Int), .sl 1 (bytes m.prev), .sl 2 (entsP m.es), .sl 1 (bytes m.root)] := rfl
  rw [hm] at hff ⊢
  refine AW.go ?_
  refine AW.callE (fun _ => 0) awake_fn .nil ?_
  refine AW.go ?_
  refine AW.callE (fun _ => 0) hff (.pv _ .nil) ?_
  cases hfb : fewM m with
  | false =>
    refine AW.go ?_
    refine AW.condT rfl ?_
    refine AW.go ?_
    exact AW.finE (.pv _ .nil) rfl
  | true =>
  have hfw : m.es.length ≤ 100 ∧ m.prev.length ≤ 300 ∧ m.root.length ≤ 300 ∧ ∀ e ∈ m.es, e.1.length ≤ 200 := by unfold fewM at hfb; exact of_decide_eq_true hfb
  obtain ⟨f1, f2, f3, f4⟩ := hfw
  have hef := manEnc_fn m hv (by omega)
  have hE1 := encM_len m hv
  have hE4 := encM_byte (m := m) hpb hrb
  have hok := encM_ok (m := m)
  rw [hm] at hef
  refine AW.go ?_
  refine AW.condF rfl ?_
  refine AW.go ?_
  refine AW.callE (fun _ => 0) hef (.pv _ .nil) ?_
  by_cases hee : (encM m).2 = 0
  case neg =>
    have d1 : (((encM m).2 : Int) != 0) = true := by rw [bne_iff_ne]; omega
    have hz : (encM m).1 = [] := by
      unfold encM at hee ⊢
      split
      · rfl
      · rename_i h; rw [if_neg h] at hee; exact absurd rfl hee
    have d2 : (((encM m).1.length : Int) == 0) = true := by rw [hz]; rfl
    generalize encM m = E at *
    obtain ⟨en, ee⟩ := E
    simp only at d1 d2
    refine AW.go ?_ (by simp only [go_sem, ↓reduceIte, d1] <;> rfl)
    refine AW.condT rfl ?_
    refine AW.gg ?_ (by simp only [go_sem, ↓reduceIte, d2] <;> rfl)
    exact AW.finE (.pv _ .nil) rfl
  obtain ⟨hw, hbe⟩ := hok hee
  have hdec := decM_bodyM hw hv
  have hmore := decM_more hw hv 0
  have hcut := fun k (hk : k < (bodyM m).length) => decM_cut hw hv hk
  rw [← hbe] at hdec hmore hcut
  have hsg : (dk key 4 []).2 = 0 → signM key m = ((encM m).1 ++ hmac (dk key 4 []).1 (encM m).1, 0) := fun h => by
    unfold signM; rw [if_neg (by rw [h]; simp), if_neg (by rw [hee]; simp)]
  have hsgb : key.length ≠ 32 → signM key m = ([], 1) := fun h => by
    have : (dk key 4 []).2 = 1 := by unfold dk; rw [if_pos h]
    unfold signM; rw [this]; rfl
  have hsf := sign_fn key m hv (by omega) hkb
  have hS4 := signM_byte (key := key) hpb hrb
  rw [hm] at hsf
  rw [hee]
  generalize (encM m).1 = en at *
  clear hok hee hbe hef
  have hdf := manDec_fn en (by omega) hE4
  have hss := lawMSame_fn m m (by omega) (by omega) (by omega)
  rw [sameM_self] at hss
  rw [hdec, hm] at hdf
  rw [hm] at hss
  simp only at hdf
  have hcb : ∀ k, k < en.length → decM (en.take k) = noM 2 := fun k hk => by
    have h2 := hcut k hk
    have h1 := decM_bad (b := en.take k) (by rw [h2]; decide)
    generalize decM (en.take k) = D at *
    obtain ⟨D1, D2⟩ := D
    simp only at h1 h2
    rw [h1, h2]; rfl
  have g0 : (((0 : Nat) : Int) != 0) = false := rfl
  have g00 : ((0 : Int) != 0) = false := rfl
  refine AW.go ?_ (by simp only [go_sem, ↓reduceIte, g0] <;> rfl)
  refine AW.condF rfl ?_
  refine AW.freeze (p := .slot 8) (by simp only [go_sem, ↓reduceIte, freeze, freezeO] <;> rfl) ?_
  refine AW.go ?_
  refine AW.callE (fun _ => 0) hdf (.pv _ .nil) ?_
  refine AW.go ?_
  refine AW.gg ?_ (by simp only [go_sem, ↓reduceIte, g00] <;> rfl)
  refine AW.guardT rfl rfl ?_
  refine AW.callE (fun _ => 0) hss (.pv _ (.pv _ .nil)) ?_
  refine AW.gg ?_
  refine AW.condF rfl ?_
  obtain ⟨mm, hmm, hme⟩ := and_low c 13 (by omega)
  have hme : ibits .and .i64 c 8191 = (mm : Int) := hme
  have ra : (en.length ≤ room) = True := eq_true (by omega)
  have rb : (en.length + 1 ≤ room) = True := eq_true (by omega)
  have b0 : bytes en ++ [PV.int .u8 0] = bytes (en ++ [0]) := by rw [← bytes_append]; rfl
  refine via (T := ?Tj) (fun hT => ?_) ?_; rotate_left
  · by_cases hcl : mm < en.length
    · have d1 : decide ((mm : Int) < (en.length : Int)) = true := decide_eq_true (by omega)
      have d1' : decide (mm < en.length) = true := decide_eq_true hcl
      have hnl : (mm ≤ en.length) = True := eq_true (by omega)
      have htk : (bytes en).take mm = bytes (en.take mm) := by rw [bytes_take]
      have hdf2 := manDec_fn (en.take mm) (by rw [List.length_take]; omega) (fun x hx => hE4 x (List.mem_of_mem_take hx))
      rw [hcb mm hcl] at hdf2
      have hm2 := manP_mk 0 [] [] []
      unfold noM at hdf2
      simp only at hdf2
      rw [hm2] at hdf2
      have g2 : ((2 : Int) != 2) = false := rfl
      refine AW.go ?_ (by simp only [go_sem, ↓reduceIte, hme, d1, d1'] <;> rfl)
      refine AW.condT rfl ?_
      refine AW.go ?_ (by simp only [go_sem, ↓reduceIte, hnl, htk] <;> rfl)
      refine AW.callE (fun _ => 0) hdf2 (.pv _ .nil) ?_
      refine AW.go ?_ (by simp only [go_sem, ↓reduceIte, g2] <;> rfl)
      refine AW.condF rfl ?_
      refine AW.go ?_ (by simp only [go_sem, ↓reduceIte, ra, rb, b0, List.length_nil, Nat.zero_add, List.nil_append, List.length_cons] <;> rfl)
      refine AW.freeze (p := .slot 72) (by simp only [go_sem, ↓reduceIte, freeze, freezeO] <;> rfl) ?_
      refine AW.keepB [0, 4, 7, 8, 72] [4] (s' := ⟨126, [(0, .pv (.sl 1 (bytes key))), (4, .ptr 4 0), (7, .pv (.bool true)), (8, .pv (.sl 1 (bytes en))), (72, .pv (.sl 1 (bytes (en ++ [0]))))], [(4, .cells 26 [.pv (.int .u64 (m.v : Int)), .pv (.sl 1 (bytes m.prev)), .pv (.sl 2 (entsP m.es)), .pv (.sl 1 (bytes m.root))])]⟩) (by simp only [go_sem, ↓reduceIte]) (by simp only [go_sem, ↓reduceIte] <;> rfl) ?_
      exact hT ()
    · have d1 : decide ((mm : Int) < (en.length : Int)) = false := decide_eq_false (by omega)
      have d1' : decide (mm < en.length) = false := decide_eq_false hcl
      refine AW.go ?_ (by simp only [go_sem, ↓reduceIte, hme, d1, d1'] <;> rfl)
      refine AW.condF rfl ?_
      refine AW.go ?_ (by simp only [go_sem, ↓reduceIte, ra, rb, b0, List.length_nil, Nat.zero_add, List.nil_append, List.length_cons] <;> rfl)
      refine AW.freeze (p := .slot 72) (by simp only [go_sem, ↓reduceIte, freeze, freezeO] <;> rfl) ?_
      refine AW.keepB [0, 4, 7, 8, 72] [4] (s' := ⟨126, [(0, .pv (.sl 1 (bytes key))), (4, .ptr 4 0), (7, .pv (.bool true)), (8, .pv (.sl 1 (bytes en))), (72, .pv (.sl 1 (bytes (en ++ [0]))))], [(4, .cells 26 [.pv (.int .u64 (m.v : Int)), .pv (.sl 1 (bytes m.prev)), .pv (.sl 2 (entsP m.es)), .pv (.sl 1 (bytes m.root))])]⟩) (by simp only [go_sem, ↓reduceIte]) (by simp only [go_sem, ↓reduceIte] <;> rfl) ?_
      exact hT ()
  have hdf3 := manDec_fn (en ++ [0]) (by rw [List.length_append, List.length_singleton]; omega) (fun x hx => by
    rcases List.mem_append.1 hx with h | h
    · exact hE4 x h
    · simp at h; omega)
  rw [hmore] at hdf3
  have hm3 := manP_mk 0 [] [] []
  unfold noM at hdf3
  simp only at hdf3
  rw [hm3] at hdf3
  have g3 : ((3 : Int) == 3) = true := rfl
  have g1 : ((1 : Int) == 1) = true := rfl
  refine AW.callE (fun _ => 0) hdf3 (.pv _ .nil) ?_
  refine AW.go ?_
  by_cases hk32 : key.length = 32
  case neg =>
    rw [hsgb hk32] at hsf
    simp only at hsf
    have d0 : ((key.length : Int) != 32) = true := by rw [bne_iff_ne]; omega
    have d0' : (key.length != 32) = true := by rw [bne_iff_ne]; omega
    refine AW.callE (fun _ => 0) hsf (.pv _ (.pv _ .nil)) ?_
    refine AW.go ?_ (by simp only [go_sem, ↓reduceIte, d0, d0'] <;> rfl)
    refine AW.condT rfl ?_
    refine AW.gg ?_ (by simp only [go_sem, ↓reduceIte, g3, g1] <;> rfl)
    exact AW.finE (.pv _ .nil) rfl
  have d0 : ((key.length : Int) != 32) = false := by rw [bne_eq_false_iff_eq]; omega
  have d0' : (key.length != 32) = false := by rw [bne_eq_false_iff_eq]; omega
  have hdk := dk_32 hk32
  rw [hsg hdk] at hsf hS4
  have hT := hmac_len (dk key 4 []).1 en
  simp only at hsf hS4
  have hck : checkM key (en ++ hmac (dk key 4 []).1 en) = (m, 0) := by
    unfold checkM
    have hl1 : (en ++ hmac (dk key 4 []).1 en).length = en.length + 32 := by rw [List.length_append, hT]
    rw [if_neg (by rw [hdk]; simp), if_neg (by omega), hl1, Nat.add_sub_cancel, List.take_left, List.drop_left, if_neg (not_not_intro rfl)]
    exact hdec
  have hcf2 := check_fn key _ hkb (by rw [List.length_append, hT]; omega) hS4
  rw [hck, hm] at hcf2
  simp only at hcf2
  have hL2 : (en ++ hmac (dk key 4 []).1 en).length = en.length + 32 := by rw [List.length_append, hT]
  generalize en ++ hmac (dk key 4 []).1 en = L2 at *
  have w32 : IntKind.i64.wrap ((en.length : Int) + 32) = (en.length : Int) + 32 := wrap_i64_of (by omega) (by omega)
  have dLL : ((L2.length : Int) == (en.length : Int) + 32) = true := by rw [beq_iff_eq]; omega
  refine AW.callE (fun _ => 0) hsf (.pv _ (.pv _ .nil)) ?_
  refine AW.go ?_ (by simp only [go_sem, ↓reduceIte, d0, d0'] <;> rfl)
  refine AW.condF rfl ?_
  refine AW.freeze (p := .slot 17) (by simp only [go_sem, ↓reduceIte, freeze, freezeO] <;> rfl) ?_
  refine AW.go ?_
  refine AW.callE (fun _ => 0) hcf2 (.pv _ (.pv _ .nil)) ?_
  have gz : ((0 : Int) == 0) = true := rfl
  have gz' : (((0 : Nat) : Int) == 0) = true := rfl
  refine AW.go ?_
  refine AW.gg ?_ (by simp only [go_sem, ↓reduceIte, g3, gz, gz', w32, dLL] <;> rfl)
  refine AW.guardT rfl rfl ?_
  refine AW.callE (fun _ => 0) hss (.pv _ (.pv _ .nil)) ?_
  refine AW.gg ?_
  exact AW.finE (.pv _ .nil) rfl
end Go.Ck

set_option linter.unusedVariables false
namespace Go.Ck
def stTypes (P : Program) (t : TypeId) : Option (List TypeId) := match P.underlying t with
  | some (.struct fs) => some (fs.toList.map (·.type))
  | _ => none
section
variable {P : Program} {n : Nat} {t : TypeId} {p : PV}
theorem PT_st2 {a b : TypeId} (hu : stTypes P t = some [a, b]) (h : PT P (n + 1) t p.cells) (h1 : p.one = !isAggT P t) : ∃ ps qs, p = .agg (ps ++ qs) ∧ PT P n a ps ∧ PT P n b qs := by
  unfold stTypes at hu
  unfold isAggT at h1
  unfold PT at h
  split at hu
  · rename_i fs hus
    rw [hus] at h1 h
    simp only [Option.some.injEq] at hu
    obtain ⟨pss, e1, e2, e3⟩ := h
    have hl : fs.toList.length = 2 := by have := congrArg List.length hu; simpa using this
    match hfl : fs.toList, hl with
    | [f, g], _ =>
      rw [hfl] at hu
      simp only [List.map_cons, List.map_nil, List.cons.injEq, and_true] at hu
      have hsz : fs.size = 2 := by rw [← Array.length_toList, hfl]; rfl
      have hf : fs[0]? = some f := by rw [← Array.getElem?_toList, hfl]; rfl
      have hg : fs[1]? = some g := by rw [← Array.getElem?_toList, hfl]; rfl
      match pss, (by rw [e2, hsz] : pss.length = 2) with
      | [ps, qs], _ =>
        have k1 := (e3 0 f ps hf rfl).1
        have k2 := (e3 1 g qs hg rfl).1
        rw [hu.1] at k1
        rw [hu.2] at k2
        refine ⟨ps, qs, ?_, k1, k2⟩
        simp only [List.flatten_cons, List.flatten_nil, List.append_nil] at e1
        cases p <;> simp [PV.one] at h1
        simp only [PV.cells] at e1
        rw [e1]
  · cases hu
theorem PTc_int {k : IntKind} {ps : List PV} (hu : P.underlying t = some (.int k)) (h : PT P (n + 1) t ps) : ∃ m, ps = [.int k m] ∧ (Lit.int k m).wf = true := by
  unfold PT at h
  rw [hu] at h
  exact h
theorem PTc_u64 {ps : List PV} (hu : P.underlying t = some (.int .u64)) (h : PT P (n + 1) t ps) : ∃ v : Nat, ps = [.int .u64 v] ∧ v < 2 ^ 64 := by
  obtain ⟨m, rfl, hm⟩ := PTc_int hu h
  obtain ⟨r, hr, h4⟩ := nats_of (k := .u64) rfl [m] (by simpa using hm)
  match r, hr with
  | [a], hr => simp at hr; subst hr; exact ⟨a, rfl, h4 a (by simp)⟩
theorem PTc_str {ps : List PV} (hu : P.underlying t = some .string) (h : PT P (n + 1) t ps) : ∃ s, ps = [.str s] ∧ s.length ≤ maxLen := by
  unfold PT at h
  rw [hu] at h
  exact h
theorem PTc_slice {e : TypeId} {ps : List PV} (hu : P.underlying t = some (.slice e)) (h : PT P (n + 1) t ps) : ∃ xs, ps = [.sl (P.cellsOf e) xs] ∧ xs.length ≤ maxLen ∧ ∀ x ∈ xs, PT P n e x.cells ∧ x.one = !isAggT P e := by
  unfold PT at h
  rw [hu] at h
  exact h
theorem sms_of {a b e : TypeId} (hu : stTypes P e = some [a, b]) (ha : P.underlying a = some (.int .i64)) (hb : P.underlying b = some (.int .u64)) : ∀ xs : List PV, (∀ x ∈ xs, PT P (n + 2) e x.cells ∧ x.one = !isAggT P e) → ∃ l : List Sm, xs = sms l ∧ smOK l
  | [], _ => ⟨[], rfl, by intro x hx; cases hx⟩
  | x :: r, h => by
    obtain ⟨ps, qs, rfl, k1, k2⟩ := PT_st2 (n := n + 1) hu (h x (by simp)).1 (h x (by simp)).2
    obtain ⟨m, rfl, hm⟩ := PTc_int ha k1
    obtain ⟨v, rfl, hv⟩ := PTc_u64 hb k2
    obtain ⟨l, rfl, hl⟩ := sms_of hu ha hb r (fun y hy => h y (by simp [hy]))
    refine ⟨(m, v) :: l, rfl, fun y hy => ?_⟩
    rcases List.mem_cons.1 hy with rfl | hy
    · exact ⟨wf_i64 hm, hv⟩
    · exact hl y hy
theorem PT_chunk {s l e a b : TypeId} (hu : stTypes P t = some [s, l]) (hs : P.underlying s = some .string) (hl : P.underlying l = some (.slice e)) (hc : P.cellsOf e = 2) (he : stTypes P e = some [a, b]) (ha : P.underlying a = some (.int .i64)) (hb : P.underlying b = some (.int .u64))
    (h : PT P (n + 4) t p.cells) (h1 : p.one = !isAggT P t) : ∃ (c : List UInt8) (xs : List Sm), p = chP (c, xs) ∧ c.length ≤ maxLen ∧ smOK xs := by
  obtain ⟨ps, qs, rfl, k1, k2⟩ := PT_st2 (n := n + 3) hu h h1
  obtain ⟨c, rfl, hcl⟩ := PTc_str hs k1
  obtain ⟨xs, rfl, _, hx⟩ := PTc_slice hl k2
  obtain ⟨r, rfl, hr⟩ := sms_of he ha hb xs hx
  exact ⟨c, r, by rw [hc]; rfl, hcl, hr⟩
end
end Go.Ck

set_option linter.unusedVariables false
namespace Go.Ck
section
variable {P : Program} {n : Nat} {t : TypeId} {p : PV}
theorem PT_st {ts : List TypeId} (hu : stTypes P t = some ts) (h : PT P (n + 1) t p.cells) (h1 : p.one = !isAggT P t) : ∃ pss : List (List PV), p = .agg pss.flatten ∧ pss.length = ts.length ∧ ∀ (i : Nat) (a : TypeId) (ps : List PV), ts[i]? = some a → pss[i]? = some ps → PT P n a ps := by
  unfold stTypes at hu
  unfold isAggT at h1
  unfold PT at h
  split at hu
  · rename_i fs hus
    rw [hus] at h1 h
    simp only [Option.some.injEq] at hu
    obtain ⟨pss, e1, e2, e3⟩ := h
    refine ⟨pss, ?_, by rw [e2, ← hu]; simp, fun i a ps hi hp => ?_⟩
    · cases p <;> simp [PV.one] at h1
      simp only [PV.cells] at e1
      rw [e1]
    · rw [← hu, List.getElem?_map] at hi
      cases hf : fs.toList[i]? with
      | none => rw [hf] at hi; cases hi
      | some f =>
        rw [hf] at hi
        cases hi
        exact (e3 i f ps (by rw [← Array.getElem?_toList, hf]) hp).1
  · cases hu
theorem ents_of {a b e : TypeId} (hu : stTypes P e = some [a, b]) (ha : P.underlying a = some .string) (hb : P.underlying b = some (.int .i64)) : ∀ xs : List PV, (∀ x ∈ xs, PT P (n + 2) e x.cells ∧ x.one = !isAggT P e) → ∃ l : List Ent, xs = entsP l
  | [], _ => ⟨[], rfl⟩
  | x :: r, h => by
    obtain ⟨ps, qs, rfl, k1, k2⟩ := PT_st2 (n := n + 1) hu (h x (by simp)).1 (h x (by simp)).2
    obtain ⟨s, rfl, _⟩ := PTc_str ha k1
    obtain ⟨m, rfl, _⟩ := PTc_int hb k2
    obtain ⟨l, rfl⟩ := ents_of hu ha hb r (fun y hy => h y (by simp [hy]))
    exact ⟨(s, m) :: l, rfl⟩
theorem PTc_bytes {u : TypeId} {ps : List PV} {e : TypeId} (hu : P.underlying u = some (.slice e)) (he : P.underlying e = some (.int .u8)) (hc : P.cellsOf e = 1) (ha : isAggT P u = false) (h : PT P (n + 3) u ps) : ∃ l : List Nat, ps = [.sl 1 (bytes l)] ∧ l.length ≤ maxLen ∧ ∀ x ∈ l, x < 256 := by
  obtain ⟨xs, rfl, h2, h3⟩ := PTc_slice hu h
  obtain ⟨l, e1, e2, e3⟩ := PT_bytes (n := n + 1) (p := .sl (P.cellsOf e) xs) hu he hc h (by rw [ha]; rfl)
  rw [e1]
  exact ⟨l, rfl, e2, e3⟩
theorem PT_man {u b l e s i : TypeId} (hu : stTypes P t = some [u, b, l, b]) (h64 : P.underlying u = some (.int .u64)) (hb : P.underlying b = some (.slice e)) (he : P.underlying e = some (.int .u8)) (hc : P.cellsOf e = 1) (hab : isAggT P b = false)
    {en : TypeId} (hl : P.underlying l = some (.slice en)) (hce : P.cellsOf en = 2) (hen : stTypes P en = some [s, i]) (hs : P.underlying s = some .string) (hi : P.underlying i = some (.int .i64))
    (h : PT P (n + 4) t p.cells) (h1 : p.one = !isAggT P t) : ∃ m : Man, p = manP m ∧ m.v < 2 ^ 64 ∧ m.es.length ≤ maxLen ∧ m.prev.length ≤ maxLen ∧ m.root.length ≤ maxLen ∧ (∀ x ∈ m.prev, x < 256) ∧ (∀ x ∈ m.root, x < 256) := by
  obtain ⟨pss, rfl, e2, e3⟩ := PT_st (n := n + 3) hu h h1
  match pss, e2 with
  | [p1, p2, p3, p4], _ =>
    obtain ⟨v, rfl, hv⟩ := PTc_u64 h64 (e3 0 u p1 rfl rfl)
    obtain ⟨pv, rfl, hp1, hp2⟩ := PTc_bytes (n := n) hb he hc hab (e3 1 b p2 rfl rfl)
    obtain ⟨xs, rfl, hx1, hx2⟩ := PTc_slice hl (e3 2 l p3 rfl rfl)
    obtain ⟨rt, rfl, hr1, hr2⟩ := PTc_bytes (n := n) hb he hc hab (e3 3 b p4 rfl rfl)
    obtain ⟨es, rfl⟩ := ents_of hen hs hi xs hx2
    refine ⟨⟨v, pv, es, rt⟩, ?_, hv, by simpa [entsP_len] using hx1, hp1, hr1, hp2, hr2⟩
    rw [hce]; rfl
theorem PA4 {P : Program} {N : Nat} {t u v x : TypeId} {pl : List PV} (h : PA P N [t, u, v, x] pl) : ∃ p q r s, pl = [p, q, r, s] ∧ (PT P N t p.cells ∧ p.one = !isAggT P t) ∧ (PT P N u q.cells ∧ q.one = !isAggT P u) ∧ (PT P N v r.cells ∧ r.one = !isAggT P v) ∧ (PT P N x s.cells ∧ s.one = !isAggT P x) := by
  obtain ⟨h1, h2⟩ := h
  match pl, h1 with
  | [p, q, r, s], _ => exact ⟨p, q, r, s, rfl, h2 0 _ _ rfl rfl, h2 1 _ _ rfl rfl, h2 2 _ _ rfl rfl, h2 3 _ _ rfl rfl⟩
end
end Go.Ck

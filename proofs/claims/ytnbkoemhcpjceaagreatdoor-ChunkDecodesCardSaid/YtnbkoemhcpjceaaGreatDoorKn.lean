/- What is proved here: parts of the proofs of this seat's statements (a verified evaluator for calls over pure values, its laws, and contracts of functions). No condition. -/
import Derived.Test.YtnbkoemhcpjceaaGreatDoorKm
import Derived.Test.YtnbkoemhcpjceaaGreatDoorKk
set_option linter.all false
set_option linter.unusedVariables false
set_option maxRecDepth 10000
set_option maxHeartbeats 1000000
namespace Go.Ck
open Go.Proofs
abbrev rrO (bs : List Nat) (e : Int) : List (Nat × HO) := [(1000, .cells 121 [.pv (.sl 1 (nis bs)), .pv (.int .i64 e)])]
attribute [go_sem] rrO
theorem rget_fn (bs : List Nat) (e : Int) (n : Nat) (hn : n ≤ 64) (hb : ∀ x ∈ bs, x < 2) : Fn Tryz.prog 120 (rrO bs e) [.ptr 1000 0, .pv (.int .i64 n)]
    (fun rs H' => rs = [.pv (.int .u64 ((if n ≤ bs.length then binN (bs.take n) else 0 : Nat) : Int))] ∧ H' = rrO (if n ≤ bs.length then bs.drop n else bs) (if n ≤ bs.length then e else if e = 0 then 2 else e)) := by
  refine Fn.of_body (fn := Tryz.f120) (n := 36) (res := [.tmp 4]) (by kernel_rfl) rfl rfl rfl rfl rfl (fun C => ?_)
  refine AW.go ?_
  refine AW.callE (fun _ => 0) (refGet_fn bs n hn hb) (.pv _ (.pv _ .nil)) ?_
  by_cases h : n ≤ bs.length
  · simp only [if_pos h]
    refine AW.gg ?_
    refine AW.condF rfl ?_
    refine AW.go ?_
    refine AW.finE (.pv _ .nil) rfl
  · simp only [if_neg h]
    by_cases he : e = 0
    · subst he
      refine AW.gg ?_
      refine AW.condT rfl ?_
      refine AW.go ?_
      refine AW.finE (.pv _ .nil) rfl
    · have e0 : (e == 0) = false := by simpa using he
      simp only [if_neg he]
      refine AW.gg ?_ (by simp only [go_sem, ↓reduceIte, e0] <;> rfl)
      refine AW.condF rfl ?_
      refine AW.go ?_
      refine AW.finE (.pv _ .nil) rfl

theorem ref09Dec_fn (l : List Nat) (n : Nat) (hn : n ≤ 65536) (hl : l.length ≤ 2 ^ 40) (hb : ∀ x ∈ l, x < 256) : Fn Tryz.prog 86 [] [.pv (.sl 1 (bytes l)), .pv (.int .i64 n)]
    (fun rs H' => rs = [.own 39 (u64s (dec09 l n).1), .pv (.int .i64 (dec09 l n).2)] ∧ H' = []) := by
  refine Fn.of_body (fn := Tryz.f86) (n := 117) (res := [.tmp 4, .tmp 5]) (by kernel_rfl) rfl rfl rfl rfl rfl (fun C => ?_)
  have hr : room = 140737488355328 := rfl
  have hub := unb_bit l
  have hul := unb_len l
  refine AW.gg ?_
  refine AW.condF (by simp only [go_sem, ↓reduceIte]; congr 3; simp; omega) ?_
  refine AW.go ?_
  refine AW.callE (fun _ => 0) (refOf_fn l (by omega) hb) (.pv _ .nil) ?_
  refine AW.go ?_
  unfold dec09
  generalize hbs : unb l = bs at *
  refine AW.loopS (fun q : RQ => ⟨117, [(10, .pv (.int .i64 q.i)), (7, .own 39 (u64s q.o)), (6, .ptr 23 0), (8, .pv (.int .i64 q.a)), (9, .pv (.int .i64 q.z)), (0, .pv (.sl 1 (bytes l))), (1, .pv (.int .i64 n))], [(23, .cells 121 [.pv (.sl 1 (nis q.rest)), .pv (.int .i64 q.bad)])]⟩)
    (RQ.ok bs n) (fun q => n - q.i) [10, 7, 6, 8, 9, 0, 1] [23] ⟨0, [], bs, 0, -1, -1⟩ ⟨Nat.zero_le _, rfl, by simp, rfl, fun _ => ⟨rfl, rfl, rfl, rfl⟩⟩ ?_
  rintro ⟨i, o, rest, bad, a, z⟩ ⟨hi, hol, ho, hbad, hq⟩ K hK
  simp only at hi hol ho hbad hq
  by_cases hb0 : bad = 0
  case neg =>
    have e0 : (bad == 0) = false := by simpa using hb0
    have e1 : (bad != 0) = true := by simpa using hb0
    have hst := gR_stop hi (by rw [hbad]; exact hb0)
    rw [hst, hbad, if_pos hb0]
    by_cases hlt : i < n
    · have d1 : decide (i < n) = true := decide_eq_true hlt
      refine AW.gg ?_ (by simp only [go_sem, ↓reduceIte, d1, e0] <;> rfl)
      refine AW.condF rfl ?_
      refine AW.go ?_ (by simp only [go_sem, ↓reduceIte, e1] <;> rfl)
      refine AW.condT rfl ?_
      refine AW.go ?_
      refine AW.sr mixed (by decide +kernel) ?_
      refine AW.go ?_
      refine AW.finE (.move rfl (.pv _ .nil)) rfl
    · have d1 : decide (i < n) = false := decide_eq_false hlt
      refine AW.gg ?_ (by simp only [go_sem, ↓reduceIte, d1] <;> rfl)
      refine AW.condF rfl ?_
      refine AW.go ?_ (by simp only [go_sem, ↓reduceIte, e1] <;> rfl)
      refine AW.condT rfl ?_
      refine AW.go ?_
      refine AW.sr mixed (by decide +kernel) ?_
      refine AW.go ?_
      refine AW.finE (.move rfl (.pv _ .nil)) rfl
  subst hb0
  obtain ⟨q1, q2, q3, q4⟩ := hq rfl
  subst q1 q2 q3 q4
  clear hq
  obtain ⟨o1, o2, o3, o4⟩ := gR_ok hub i hbad
  by_cases hlt : i < n
  case neg =>
    have d1 : decide (i < n) = false := decide_eq_false hlt
    have hge : i = n := by omega
    subst hge
    rw [if_neg (fun h => h hbad)]
    generalize (gR bs i).o = o at *
    have hle : o.length ≤ 65536 := by omega
    refine AW.gg ?_ (by simp only [go_sem, ↓reduceIte, d1] <;> rfl)
    refine AW.condF rfl ?_
    refine AW.go ?_
    refine AW.condF rfl ?_
    refine AW.go ?_
    refine AW.callE (fun _ => 0) (ref09Enc_fn o o4) (.lend rfl co_39 .nil) ?_
    simp only [if_pos hle]
    refine AW.go ?_
    have hpl : (enc09 o).length ≤ room := by
      have := gF_len o
      have := pk_len (gF o).1
      unfold enc09
      omega
    refine AW.callE (fun _ => 0) (ref01Same_fn (enc09 o) l hpl) (.lend rfl co_5 (.pv _ .nil)) ?_
    refine AW.go ?_
    refine AW.cond rfl (fun hc2 => ?_) (fun hc2 => ?_)
    · have hne : ¬ enc09 o = l := by simpa using hc2
      simp only [if_neg hne]
      refine AW.go ?_
      refine AW.finE (.move rfl (.pv _ .nil)) rfl
    · have hne : enc09 o = l := by simpa using hc2
      simp only [if_pos hne]
      refine AW.go ?_
      refine AW.finE (.move rfl (.pv _ .nil)) rfl
  have d1 : decide (i < n) = true := decide_eq_true hlt
  have hsu : gR bs (i + 1) = gRs bs (gR bs i) := rfl
  generalize hrr : gR bs (i + 1) = r' at hsu
  generalize gR bs i = r at *
  obtain ⟨o, e, k, a, z⟩ := r
  simp only at hbad hol ho o1 o2 o3 o4 hsu ⊢
  subst hbad
  have h1 : (i + 1) * 8 ≤ room := by omega
  have h2 : i + 1 ≤ room := by omega
  have ei : IntKind.i64.wrap ((i : Int) + 1) = ((i + 1 : Nat) : Int) := wrap_i64_succ (by omega)
  have hbd : ∀ j, ∀ x ∈ bs.drop j, x < 2 := fun j x hx => hub x (List.mem_of_mem_drop hx)
  refine AW.gg ?_ (by simp only [go_sem, ↓reduceIte, d1] <;> rfl)
  refine AW.condT rfl ?_
  refine AW.go ?_
  by_cases h0 : i = 0
  · subst h0
    unfold gRs at hsu
    rw [if_neg (by simp), if_pos (by simpa using o1)] at hsu
    simp only at hsu
    have ho : o = [] := List.length_eq_zero_iff.1 o1
    subst ho
    refine AW.condT rfl ?_
    refine AW.go ?_
    refine AW.callE (fun _ => 23) (rget_fn (bs.drop k) 0 64 (by omega) (hbd k)) (.ptr rfl (.pv _ .nil)) ?_
    by_cases h64 : k + 64 ≤ bs.length
    · rw [if_pos h64] at hsu
      simp only [if_pos (show 64 ≤ (bs.drop k).length by simp; omega), List.drop_drop, getB_drop]
      refine AW.go ?_ (by simp only [go_sem, ↓reduceIte, u64s_one, ei] <;> rfl)
      rw [hsu] at hrr
      refine AW.again hK ⟨1, [getB bs k 64], bs.drop (k + 64), 0, a, zr a z⟩ ⟨hlt, rfl, ?_, by rw [show gR bs 1 = _ from hrr], fun _ => by rw [show gR bs 1 = _ from hrr]; exact ⟨rfl, rfl, rfl, rfl⟩⟩ (by simp only; omega)
      intro x hx
      simp at hx
      subst hx
      exact getB_lt hub _ _
    · rw [if_neg h64] at hsu
      simp only [if_neg (show ¬ 64 ≤ (bs.drop k).length by simp; omega)]
      have z0 : ((0 : Nat) : Int) = 0 := rfl
      refine AW.go ?_ (by simp only [go_sem, ↓reduceIte, u64s_one, ei] <;> rfl)
      rw [hsu] at hrr
      refine AW.again hK ⟨1, [0], bs.drop k, 2, a, zr a z⟩ ⟨hlt, rfl, by simp, by rw [show gR bs 1 = _ from hrr], fun h => by simp at h⟩ (by simp only; omega)
  unfold gRs at hsu
  rw [if_neg (by simp), if_neg (by simp only; omega)] at hsu
  simp only at hsu
  have c0 : ((i : Int) == 0) = false := by simpa using h0
  refine AW.condF (by simp only [go_sem, ↓reduceIte, c0]) ?_
  refine AW.go ?_
  have ei1 : IntKind.i64.wrap ((i : Int) - 1) = ((i - 1 : Nat) : Int) := by rw [wrap_i64_of (by omega) (by omega)]; omega
  have hlo : i - 1 < o.length := by omega
  have hget : (u64s o)[i - 1]? = some (.int .u64 (o.getD (o.length - 1) 0 : Nat)) := by rw [u64s_get hlo, getD_get hlo, o1]
  have hy := getD_lt o4 (by omega) (o.length - 1)
  have hgn := gNx_ok hub o3 (a := a) (z := z) (k := k) (by omega)
  have hdl : ∀ j, (bs.drop j).length = bs.length - j := fun j => by simp
  refine AW.callE (fun _ => 23) (rget_fn (bs.drop k) 0 1 (by omega) (hbd k)) (.ptr rfl (.pv _ .nil)) ?_
  have hv : (k + 1 ≤ bs.length ∧ (if 1 ≤ (bs.drop k).length then binN ((bs.drop k).take 1) else 0) = getB bs k 1 ∧ (if 1 ≤ (bs.drop k).length then (bs.drop k).drop 1 else bs.drop k) = bs.drop (k + 1) ∧ (if 1 ≤ (bs.drop k).length then (0 : Int) else 2) = 0) ∨
      (bs.length < k + 1 ∧ (if 1 ≤ (bs.drop k).length then binN ((bs.drop k).take 1) else 0) = 0 ∧ (if 1 ≤ (bs.drop k).length then (bs.drop k).drop 1 else bs.drop k) = bs.drop k ∧ (if 1 ≤ (bs.drop k).length then (0 : Int) else 2) = 2) := by
    by_cases h : k + 1 ≤ bs.length
    · rw [if_pos (by rw [hdl]; omega), if_pos (by rw [hdl]; omega), if_pos (by rw [hdl]; omega)]
      exact .inl ⟨h, rfl, by rw [List.drop_drop], rfl⟩
    · rw [if_neg (by rw [hdl]; omega), if_neg (by rw [hdl]; omega), if_neg (by rw [hdl]; omega)]
      exact .inr ⟨by omega, rfl, rfl, rfl⟩
  generalize (if 1 ≤ (bs.drop k).length then binN ((bs.drop k).take 1) else 0) = v at *
  generalize (if 1 ≤ (bs.drop k).length then (bs.drop k).drop 1 else bs.drop k) = rest at *
  generalize (if 1 ≤ (bs.drop k).length then (0 : Int) else 2) = bad at *
  have hv2 : v < 2 := by
    rcases hv with ⟨_, rfl, _⟩ | ⟨_, rfl, _⟩
    · exact getB_lt hub k 1
    · omega
  refine AW.go ?_
  refine AW.joinS (fun q : RQ => ⟨117, [(10, .pv (.int .i64 i)), (7, .own 39 (u64s o)), (11, .pv (.int .u64 q.i)), (6, .ptr 23 0), (8, .pv (.int .i64 q.a)), (9, .pv (.int .i64 q.z)), (0, .pv (.sl 1 (bytes l))), (1, .pv (.int .i64 n))], [(23, .cells 121 [.pv (.sl 1 (nis q.rest)), .pv (.int .i64 q.bad)])]⟩)
    (fun q => q.i < 2 ^ 64 ∧ (gNx bs k a z).e = q.bad ∧ (q.bad = 0 → q.i = (gNx bs k a z).x ∧ q.rest = bs.drop (gNx bs k a z).k ∧ q.a = (gNx bs k a z).a ∧ q.z = zr (gNx bs k a z).a (gNx bs k a z).z)) [10, 7, 11, 6, 8, 9, 0, 1] [23] ?_ ?_
  case refine_2 =>
    clear hv hv2
    rintro ⟨x, o', rest, bad, a', z'⟩ ⟨hx, he, hq⟩
    simp only at hx he hq
    generalize gNx bs k a z = q at *
    obtain ⟨gx, ge, gk, ga, gz⟩ := q
    simp only at hgn hsu he hq
    subst he
    generalize o.getD (o.length - 1) 0 = y at *
    have hxy := ibits_xor64 hx hy
    have hlo' : i - 1 < i := by omega
    refine AW.go ?_ (by simp only [go_sem, ↓reduceIte, ei1, hlo', hget, hxy, o1, h1, h2, u64s_one, ei] <;> rfl)
    rw [hsu] at hrr
    refine AW.again hK ⟨i + 1, o ++ [x ^^^ y], rest, ge, a', z'⟩ ⟨hlt, by simp [o1], ?_, by rw [hrr], fun h => ?_⟩ (by simp only; omega)
    · intro w hw
      simp only [List.mem_append, List.mem_singleton] at hw
      rcases hw with hw | rfl
      · exact o4 w hw
      · exact Nat.xor_lt_two_pow hx hy
    · simp only at h
      obtain ⟨p1, p2, p3, p4⟩ := hq h
      rw [hrr]
      simp only [if_pos h]
      exact ⟨by rw [p1], p2, p3, p4⟩
  intro K' hK'
  refine AW.cond rfl (fun hc => ?_) (fun hc => ?_)
  case refine_2 =>
    have hv0 : v = 0 := by simp at hc; omega
    subst hv0
    refine AW.go ?_
    rcases hv with ⟨g1, g2, rfl, rfl⟩ | ⟨g1, _, rfl, rfl⟩
    · have hs : gNx bs k a z = ⟨0, 0, k + 1, a, z⟩ := by rw [gNx, if_neg (by omega), if_pos g2.symm]
      exact AW.meet hK' ⟨0, [], bs.drop (k + 1), 0, a, zr a z⟩ ⟨by simp, by rw [hs], fun _ => by rw [hs]; exact ⟨rfl, rfl, rfl, rfl⟩⟩
    · have hs : gNx bs k a z = ⟨0, 2, k, a, z⟩ := by rw [gNx, if_pos g1]
      exact AW.meet hK' ⟨0, [], bs.drop k, 2, a, zr a z⟩ ⟨by simp, by rw [hs], fun h => by simp at h⟩
  have hv1 : v = 1 := by simp at hc; omega
  subst hv1
  rcases hv with ⟨g1, g2, rfl, rfl⟩ | ⟨_, h, _⟩
  case inr => cases h
  have g2' : ¬ getB bs k 1 = 0 := by omega
  refine AW.go ?_
  refine AW.callE (fun _ => 23) (rget_fn (bs.drop (k + 1)) 0 1 (by omega) (hbd (k + 1))) (.ptr rfl (.pv _ .nil)) ?_
  have hv : (k + 2 ≤ bs.length ∧ (if 1 ≤ (bs.drop (k + 1)).length then binN ((bs.drop (k + 1)).take 1) else 0) = getB bs (k + 1) 1 ∧ (if 1 ≤ (bs.drop (k + 1)).length then (bs.drop (k + 1)).drop 1 else bs.drop (k + 1)) = bs.drop (k + 2) ∧ (if 1 ≤ (bs.drop (k + 1)).length then (0 : Int) else 2) = 0) ∨
      (bs.length < k + 2 ∧ (if 1 ≤ (bs.drop (k + 1)).length then binN ((bs.drop (k + 1)).take 1) else 0) = 0 ∧ (if 1 ≤ (bs.drop (k + 1)).length then (bs.drop (k + 1)).drop 1 else bs.drop (k + 1)) = bs.drop (k + 1) ∧ (if 1 ≤ (bs.drop (k + 1)).length then (0 : Int) else 2) = 2) := by
    by_cases h : k + 2 ≤ bs.length
    · rw [if_pos (by rw [hdl]; omega), if_pos (by rw [hdl]; omega), if_pos (by rw [hdl]; omega)]
      exact .inl ⟨h, rfl, by rw [List.drop_drop], rfl⟩
    · rw [if_neg (by rw [hdl]; omega), if_neg (by rw [hdl]; omega), if_neg (by rw [hdl]; omega)]
      exact .inr ⟨by omega, rfl, rfl, rfl⟩
  generalize (if 1 ≤ (bs.drop (k + 1)).length then binN ((bs.drop (k + 1)).take 1) else 0) = v at *
  generalize (if 1 ≤ (bs.drop (k + 1)).length then (bs.drop (k + 1)).drop 1 else bs.drop (k + 1)) = rest at *
  generalize (if 1 ≤ (bs.drop (k + 1)).length then (0 : Int) else 2) = bad at *
  have hv2 : v < 2 := by
    rcases hv with ⟨_, rfl, _⟩ | ⟨_, rfl, _⟩
    · exact getB_lt hub (k + 1) 1
    · omega
  refine AW.go ?_
  refine AW.joinS (fun q : RQ => ⟨117, [(10, .pv (.int .i64 i)), (7, .own 39 (u64s o)), (11, .pv (.int .u64 0)), (6, .ptr 23 0), (8, .pv (.int .i64 q.a)), (9, .pv (.int .i64 q.z)), (0, .pv (.sl 1 (bytes l))), (1, .pv (.int .i64 n))], [(23, .cells 121 [.pv (.sl 1 (nis q.rest)), .pv (.int .i64 q.bad)])]⟩)
    (fun q => (q.bad = 0 ∧ ∃ k' z', wRd q.a z' ∧ k' ≤ bs.length ∧ gNx bs k a z = gNy bs k' q.a z' ∧ q.rest = bs.drop k' ∧ q.z = zr q.a z') ∨ (q.bad ≠ 0 ∧ (gNx bs k a z).e = q.bad)) [10, 7, 11, 6, 8, 9, 0, 1] [23] ?_ ?_
  · intro K2 hK2
    refine AW.cond rfl (fun hc => ?_) (fun hc => ?_)
    case refine_2 =>
      have hv0 : v = 0 := by simp at hc; omega
      subst hv0
      refine AW.go ?_
      rcases hv with ⟨g3, g4, rfl, rfl⟩ | ⟨g3, _, rfl, rfl⟩
      · have hs : gNx bs k a z = gNy bs (k + 2) a z := by rw [gNx, if_neg (by omega), if_neg g2', if_neg (by omega), if_neg (by omega)]
        exact AW.meet hK2 ⟨0, [], bs.drop (k + 2), 0, a, zr a z⟩ (.inl ⟨rfl, k + 2, z, o3.rd, g3, hs, rfl, rfl⟩)
      · have hs : gNx bs k a z = ⟨0, 2, k + 1, a, z⟩ := by rw [gNx, if_neg (by omega), if_neg g2', if_pos g3]
        exact AW.meet hK2 ⟨0, [], bs.drop (k + 1), 2, a, zr a z⟩ (.inr ⟨by simp, by rw [hs]⟩)
    have hv1 : v = 1 := by simp at hc; omega
    subst hv1
    rcases hv with ⟨g3, g4, rfl, rfl⟩ | ⟨_, h, _⟩
    case inr => cases h
    refine AW.go ?_
    refine AW.callE (fun _ => 23) (rget_fn (bs.drop (k + 2)) 0 5 (by omega) (hbd (k + 2))) (.ptr rfl (.pv _ .nil)) ?_
    by_cases h5 : k + 7 ≤ bs.length
    · simp only [if_pos (show 5 ≤ (bs.drop (k + 2)).length by rw [hdl]; omega), getB_drop, List.drop_drop]
      have b5 := getB_lt hub (k + 2) 5
      have w1 : IntKind.i64.wrap ((getB bs (k + 2) 5 : Nat) : Int) = (getB bs (k + 2) 5 : Nat) := wrap_i64_nat (by omega)
      refine AW.go ?_ (by simp only [go_sem, ↓reduceIte, w1] <;> rfl)
      refine AW.callE (fun _ => 23) (rget_fn (bs.drop (k + 7)) 0 6 (by omega) (hbd (k + 7))) (.ptr rfl (.pv _ .nil)) ?_
      by_cases h6 : k + 13 ≤ bs.length
      · simp only [if_pos (show 6 ≤ (bs.drop (k + 7)).length by rw [hdl]; omega), getB_drop, List.drop_drop]
        have b6 := getB_lt hub (k + 7) 6
        have hs : gNx bs k a z = gNy bs (k + 13) (getB bs (k + 2) 5 : Nat) (63 - (getB bs (k + 2) 5 : Nat) - (getB bs (k + 7) 6 : Nat)) := by rw [gNx, if_neg (by omega), if_neg g2', if_neg (by omega), if_pos g4.symm, if_neg (by omega), if_neg (by omega)]
        generalize getB bs (k + 2) 5 = u at *
        generalize getB bs (k + 7) 6 = v at *
        have w2 : IntKind.i64.wrap (v : Int) = v := wrap_i64_nat (by omega)
        have w3 : IntKind.i64.wrap (IntKind.i64.wrap (63 - (u : Int)) - (v : Int)) = 63 - (u : Int) - (v : Int) := by rw [wrap_i64_of (n := 63 - (u : Int)) (by omega) (by omega), wrap_i64_of (by omega) (by omega)]
        refine AW.go ?_ (by simp only [go_sem, ↓reduceIte, w2, w3] <;> rfl)
        exact AW.meet hK2 ⟨0, [], bs.drop (k + 13), 0, u, 63 - (u : Int) - (v : Int)⟩ (.inl ⟨rfl, k + 13, 63 - (u : Int) - (v : Int), by unfold wRd; simp only; omega, h6, hs, rfl, by rw [zr_pos (by simp)]⟩)
      · simp only [if_neg (show ¬ 6 ≤ (bs.drop (k + 7)).length by rw [hdl]; omega)]
        have hs : gNx bs k a z = ⟨0, 2, k + 7, a, z⟩ := by rw [gNx, if_neg (by omega), if_neg g2', if_neg (by omega), if_pos g4.symm, if_neg (by omega), if_pos (by omega)]
        generalize getB bs (k + 2) 5 = u at *
        have w3 : IntKind.i64.wrap (IntKind.i64.wrap (63 - (u : Int))) = 63 - (u : Int) := by rw [wrap_i64_of (n := 63 - (u : Int)) (by omega) (by omega), wrap_i64_of (by omega) (by omega)]
        have w0 : IntKind.i64.wrap ((0 : Nat) : Int) = 0 := by decide
        refine AW.go ?_ (by simp only [go_sem, ↓reduceIte, w0, w3] <;> rfl)
        exact AW.meet hK2 ⟨0, [], bs.drop (k + 7), 2, u, 63 - (u : Int)⟩ (.inr ⟨by simp, by rw [hs]⟩)
    · simp only [if_neg (show ¬ 5 ≤ (bs.drop (k + 2)).length by rw [hdl]; omega)]
      have w0 : IntKind.i64.wrap ((0 : Nat) : Int) = 0 := by decide
      have hs : gNx bs k a z = ⟨0, 2, k + 2, a, z⟩ := by rw [gNx, if_neg (by omega), if_neg g2', if_neg (by omega), if_pos g4.symm, if_pos (by omega)]
      refine AW.go ?_ (by simp only [go_sem, ↓reduceIte, w0] <;> rfl)
      refine AW.callE (fun _ => 23) (rget_fn (bs.drop (k + 2)) 2 6 (by omega) (hbd (k + 2))) (.ptr rfl (.pv _ .nil)) ?_
      simp only [if_neg (show ¬ 6 ≤ (bs.drop (k + 2)).length by rw [hdl]; omega)]
      have w3 : IntKind.i64.wrap (IntKind.i64.wrap (63 - 0) - 0) = 63 := by decide
      refine AW.go ?_ (by simp only [go_sem, ↓reduceIte, w0, w3] <;> rfl)
      exact AW.meet hK2 ⟨0, [], bs.drop (k + 2), 2, 0, 63⟩ (.inr ⟨by simp, by rw [hs]⟩)
  clear hv hv2
  rintro ⟨x, o', rest, bad, a', z1⟩ hq
  simp only at hq
  rcases hq with ⟨rfl, k', z', hw, hk', hs, rfl, rfl⟩ | ⟨hb0, he⟩
  · have hneg := zr_neg hw
    rw [gNy] at hs
    by_cases ha : a' < 0
    · rw [if_pos (hneg.2 (.inl ha))] at hs
      have d1 : decide (a' < 0) = true := decide_eq_true ha
      refine AW.gg ?_ (by simp only [go_sem, ↓reduceIte, d1] <;> rfl)
      refine AW.condT rfl ?_
      refine AW.go ?_
      refine AW.condF rfl ?_
      refine AW.go ?_
      exact AW.meet hK' ⟨0, [], bs.drop k', 3, a', zr a' z'⟩ ⟨by simp, by rw [hs], fun h => by simp at h⟩
    have d1 : decide (a' < 0) = false := decide_eq_false ha
    by_cases hz : zr a' z' < 0
    · rw [if_pos (hneg.2 (.inr hz))] at hs
      have d2 : decide (zr a' z' < 0) = true := decide_eq_true hz
      refine AW.gg ?_ (by simp only [go_sem, ↓reduceIte, d1, d2] <;> rfl)
      refine AW.condT rfl ?_
      refine AW.go ?_
      refine AW.condF rfl ?_
      refine AW.go ?_
      exact AW.meet hK' ⟨0, [], bs.drop k', 3, a', zr a' z'⟩ ⟨by simp, by rw [hs], fun h => by simp at h⟩
    rw [if_neg (fun h => (hneg.1 h).elim ha hz)] at hs
    rw [zr_pos (by omega)] at hz ⊢
    have d2 : decide (z' < 0) = false := decide_eq_false hz
    unfold wRd at hw
    obtain ⟨u, rfl⟩ : ∃ u : Nat, a' = u := ⟨a'.toNat, by omega⟩
    obtain ⟨t, rfl⟩ : ∃ t : Nat, z' = t := ⟨z'.toNat, by omega⟩
    have eR : (64 - (u : Int) - (t : Int)).toNat = 64 - u - t := by omega
    rw [eR, Int.toNat_natCast] at hs
    refine AW.gg ?_ (by simp only [go_sem, ↓reduceIte, d1, d2] <;> rfl)
    refine AW.condF rfl ?_
    refine AW.go ?_
    refine AW.condT rfl ?_
    have w3 : IntKind.i64.wrap (IntKind.i64.wrap (64 - (u : Int)) - (t : Int)) = ((64 - u - t : Nat) : Int) := by rw [wrap_i64_of (n := 64 - (u : Int)) (by omega) (by omega), wrap_i64_of (by omega) (by omega)]; omega
    refine AW.go ?_ (by simp only [go_sem, ↓reduceIte, w3] <;> rfl)
    refine AW.callE (fun _ => 23) (rget_fn (bs.drop k') 0 (64 - u - t) (by omega) (hbd k')) (.ptr rfl (.pv _ .nil)) ?_
    have wu : IntKind.u64.wrap (t : Int) = t := wrap_u64_lt (by omega)
    by_cases h7 : k' + (64 - u - t) ≤ bs.length
    · rw [if_pos h7] at hs
      simp only [if_pos (show 64 - u - t ≤ (bs.drop k').length by rw [hdl]; omega), getB_drop, List.drop_drop]
      generalize getB bs k' (64 - u - t) = y at *
      have e7 := shlI_nat64 y t (by omega)
      refine AW.go ?_ (by simp only [go_sem, ↓reduceIte, wu, e7] <;> rfl)
      exact AW.meet hK' ⟨y * 2 ^ t % 2 ^ 64, [], bs.drop (k' + (64 - u - t)), 0, u, t⟩ ⟨Nat.mod_lt _ (by omega), by rw [hs], fun _ => by rw [hs]; exact ⟨rfl, rfl, rfl, by rw [zr_pos (by simp)]⟩⟩
    · rw [if_neg h7] at hs
      simp only [if_neg (show ¬ 64 - u - t ≤ (bs.drop k').length by rw [hdl]; omega)]
      have e7 : shlI .u64 ((0 : Nat) : Int) (t : Int) = ((0 : Nat) : Int) := by have := shlI_nat64 0 t (by omega); simpa using this
      refine AW.go ?_ (by simp only [go_sem, ↓reduceIte, wu, e7] <;> rfl)
      exact AW.meet hK' ⟨0, [], bs.drop k', 2, u, t⟩ ⟨by simp, by rw [hs], fun h => by simp at h⟩
  · have e0 : (bad == 0) = false := by simpa using hb0
    refine AW.gg ?_ (by simp only [go_sem, ↓reduceIte, e0] <;> rfl)
    refine AW.condF rfl ?_
    refine AW.go ?_ (by simp only [go_sem, ↓reduceIte, e0] <;> rfl)
    refine AW.condF rfl ?_
    refine AW.go ?_
    exact AW.meet hK' ⟨0, [], rest, bad, a', z1⟩ ⟨by simp, he, fun h => absurd h hb0⟩
end Go.Ck

set_option linter.unusedVariables false
set_option maxRecDepth 10000
set_option maxHeartbeats 1000000
namespace Go.Ck
open Go.Proofs
theorem dic_one (l : List Nat) : dic l 1 = [beN (l.take 8)] := rfl
theorem vread_fn (l : List Nat) (n t : Nat) (ht : t < 4) (hn : n ≤ 65536) (hl : l.length ≤ 2 ^ 40) (hb : ∀ x ∈ l, x < 256) : Fn Tryz.prog 57 (curO l) [.ptr 1000 0, .pv (.int .i64 n), .pv (.int .i64 t)]
    (fun rs H' => rs = [.own 39 (u64s (vR l n t).1), .pv (.int .i64 (vR l n t).2.1)] ∧ H' = curO (vR l n t).2.2) := by
  refine Fn.of_body (fn := Tryz.f57) (n := 61) (res := [.tmp 6, .tmp 7]) (by kernel_rfl) rfl rfl rfl rfl rfl (fun C => ?_)
  have hr : room = 140737488355328 := rfl
  have hfx : ∀ m : Nat, m ≤ 65536 → Fn Tryz.prog 78 (curO l) [.ptr 1000 0, .pv (.int .i64 m)] (fun rs H' => rs = [.own 39 (u64s (fx l m).1), .pv (.int .i64 (fx l m).2.1)] ∧ H' = curO (fx l m).2.2) := by
    intro m hm
    refine (fixed_fn l m hm hl hb).mono (fun rs H' h => ?_)
    unfold fx
    by_cases h8 : 8 * m ≤ l.length
    · simp only [if_pos h8] at h ⊢; exact h
    · simp only [if_neg h8] at h ⊢; exact h
  have hc : t = 0 ∨ t = 1 ∨ t = 2 ∨ t = 3 := by omega
  rcases hc with rfl | rfl | rfl | rfl
  · have hs : vR l n 0 = fx l n := by simp [vR]
    rw [hs]
    refine AW.go ?_
    refine AW.condT rfl ?_
    refine AW.go ?_
    refine AW.callE id (hfx n hn) (.ptr rfl (.pv _ .nil)) ?_
    refine AW.go ?_
    refine AW.finE (.move rfl (.pv _ .nil)) rfl
  · have hs : vR l n 1 = if (fx l 1).2.1 ≠ 0 then ([], (fx l 1).2.1, (fx l 1).2.2) else (List.replicate n (beN (l.take 8)), 0, (fx l 1).2.2) := by simp [vR]
    rw [hs]
    refine AW.go ?_
    refine AW.condF rfl ?_
    refine AW.go ?_
    refine AW.condT rfl ?_
    refine AW.go ?_
    refine AW.callE id (hfx 1 (by omega)) (.ptr rfl (.pv _ .nil)) ?_
    refine AW.go ?_
    refine AW.cond rfl (fun hc => ?_) (fun hc => ?_)
    · have he : (fx l 1).2.1 ≠ 0 := by simpa using hc
      simp only [if_pos he]
      refine AW.go ?_
      refine AW.finE (.move rfl (.pv _ .nil)) rfl
    have he : ¬ (fx l 1).2.1 ≠ 0 := by simpa using hc
    have h1 : (fx l 1).1 = [beN (l.take 8)] := by
      have := fx_err l 1
      unfold fx at he ⊢
      split
      · exact dic_one l
      · rename_i h; rw [if_neg h] at he; simp at he
    simp only [if_neg he, h1]
    generalize beN (l.take 8) = v at *
    refine AW.go ?_
    refine AW.loopS (fun i : Nat => ⟨61, [(32, .pv (.int .i64 i)), (31, .pv (.int .i64 n)), (10, .own 39 (u64s (List.replicate i v))), (8, .own 39 (u64s [v])), (0, .ptr 1000 0)], curO (fx l 1).2.2⟩) (fun i => i ≤ n) (fun i => n - i) [32, 31, 10, 8, 0] [1000] 0 (Nat.zero_le _) ?_
    rintro i hi K hK
    refine AW.go ?_
    refine AW.cond rfl (fun hc => ?_) (fun hc => ?_)
    · have hlt : i < n := by simpa using hc
      have k1 : (i + 1) * 8 ≤ room := by omega
      have k2 : i + 1 ≤ room := by omega
      have ei : IntKind.i64.wrap ((i : Int) + 1) = ((i + 1 : Nat) : Int) := wrap_i64_succ (by omega)
      have er : List.replicate i v ++ [v] = List.replicate (i + 1) v := List.replicate_append_replicate (n := i) (m := 1)
      refine AW.go ?_ (by simp only [go_sem, ↓reduceIte, List.length_replicate, List.length_singleton, u64s_one, k1, k2, ei, er] <;> rfl)
      refine AW.again hK (i + 1) hlt (by omega)
    · have hge : i = n := by simp at hc; omega
      subst hge
      refine AW.go ?_
      refine AW.finE (.move rfl (.pv _ .nil)) rfl
  · have hs : vR l n 2 = ((dec10 l n).1, (dec10 l n).2, []) := by simp [vR]
    rw [hs]
    refine AW.go ?_
    refine AW.condF rfl ?_
    refine AW.go ?_
    refine AW.condF rfl ?_
    refine AW.go ?_
    refine AW.callE id (curLeft_fn l) (.ptr rfl .nil) ?_
    refine AW.go ?_
    refine AW.callE id (curBytes_fn l l.length (by omega)) (.ptr rfl (.pv _ .nil)) ?_
    simp only [if_pos (Nat.le_refl _), List.take_length, List.drop_length]
    refine AW.go ?_
    refine AW.condT rfl ?_
    refine AW.go ?_
    refine AW.callE (fun _ => 0) (dictDec_fn l n hn hl hb) (.lend rfl co_5 (.pv _ .nil)) ?_
    refine AW.go ?_
    refine AW.finE (.move rfl (.pv _ .nil)) rfl
  · have hs : vR l n 3 = ((dec09 l n).1, (dec09 l n).2, []) := by simp [vR]
    rw [hs]
    refine AW.go ?_
    refine AW.condF rfl ?_
    refine AW.go ?_
    refine AW.condF rfl ?_
    refine AW.go ?_
    refine AW.callE id (curLeft_fn l) (.ptr rfl .nil) ?_
    refine AW.go ?_
    refine AW.callE id (curBytes_fn l l.length (by omega)) (.ptr rfl (.pv _ .nil)) ?_
    simp only [if_pos (Nat.le_refl _), List.take_length, List.drop_length]
    refine AW.go ?_
    refine AW.condF rfl ?_
    refine AW.go ?_
    refine AW.callE (fun _ => 0) (gorDec_fn l n hn hl hb) (.lend rfl co_5 (.pv _ .nil)) ?_
    refine AW.go ?_
    refine AW.finE (.move rfl (.pv _ .nil)) rfl

theorem vdec_fn (l : List Nat) (n : Int) (hl : l.length ≤ 2 ^ 40) (hb : ∀ x ∈ l, x < 256) : Fn Tryz.prog 33 [] [.pv (.sl 1 (bytes l)), .pv (.int .i64 n)]
    (fun rs H' => rs = [.own 39 (u64s (dec11 l n).1), .pv (.int .i64 (dec11 l n).2)] ∧ H' = []) := by
  refine Fn.of_body (fn := Tryz.f33) (n := 53) (res := [.tmp 4, .tmp 5]) (by kernel_rfl) rfl rfl rfl rfl rfl (fun C => ?_)
  have hr : room = 140737488355328 := rfl
  by_cases hn : n < 0 ∨ 65536 < n
  · rw [dec11_arg hn]
    by_cases h0 : n < 0
    · have d1 : decide (n < 0) = true := decide_eq_true h0
      refine AW.gg ?_ (by simp only [go_sem, ↓reduceIte, d1] <;> rfl)
      refine AW.condT rfl ?_
      refine AW.go ?_
      refine AW.finE (.move rfl (.pv _ .nil)) rfl
    · have d1 : decide (n < 0) = false := decide_eq_false h0
      have d2 : decide (n > 65536) = true := decide_eq_true (by omega)
      refine AW.gg ?_ (by simp only [go_sem, ↓reduceIte, d1, d2] <;> rfl)
      refine AW.condT rfl ?_
      refine AW.go ?_
      refine AW.finE (.move rfl (.pv _ .nil)) rfl
  have d1 : decide (n < 0) = false := decide_eq_false (by omega)
  have d2 : decide (n > 65536) = false := decide_eq_false (by omega)
  refine AW.gg ?_ (by simp only [go_sem, ↓reduceIte, d1, d2] <;> rfl)
  refine AW.condF rfl ?_
  obtain ⟨n, rfl⟩ : ∃ m : Nat, n = m := ⟨n.toNat, by omega⟩
  refine AW.go ?_
  refine AW.callE (fun o => if o = 7 then 19 else 0) (curNew_fn l (by omega)) (.pv _ .nil) ?_
  refine AW.go ?_
  refine AW.callE (fun _ => 19) (curByte_fn l (by omega)) (.ptr rfl .nil) ?_
  by_cases hnil : l = []
  · subst hnil
    rw [dec11_nil hn]
    simp only [if_true]
    refine AW.go ?_
    refine AW.condT rfl ?_
    refine AW.go ?_
    refine AW.finE (.move rfl (.pv _ .nil)) rfl
  simp only [if_neg hnil]
  obtain ⟨t, r, rfl⟩ : ∃ t r, l = t :: r := by cases l with | nil => exact absurd rfl hnil | cons t r => exact ⟨t, r, rfl⟩
  rw [dec11_cons t r hn]
  simp only [List.headD_cons, List.tail_cons]
  have ht : t < 256 := hb t (by simp)
  have hbr : ∀ x ∈ r, x < 256 := fun x hx => hb x (by simp [hx])
  refine AW.go ?_
  refine AW.condF rfl ?_
  refine AW.go ?_
  refine AW.cond rfl (fun hc => ?_) (fun hc => ?_)
  · have h4 : 4 ≤ t := by simp at hc; omega
    simp only [if_pos h4]
    refine AW.go ?_
    refine AW.finE (.move rfl (.pv _ .nil)) rfl
  have h4 : ¬ 4 ≤ t := by simp at hc; omega
  simp only [if_neg h4]
  have et : IntKind.i64.wrap (t : Int) = t := wrap_i64_nat (by omega)
  have hlr : r.length ≤ 2 ^ 40 := by simp at hl; omega
  refine AW.go ?_ (by simp only [go_sem, ↓reduceIte, et] <;> rfl)
  refine AW.callE (fun _ => 19) (vread_fn r n t (by omega) (by omega) hlr hbr) (.ptr rfl (.pv _ (.pv _ .nil))) ?_
  obtain ⟨he, hx⟩ := @vR_rd r n t (by omega)
  have hlt := rd11_lt hbr n t
  generalize vR r n t = v at *
  generalize rd11 r n t = q at *
  obtain ⟨xs, e, rest⟩ := v
  obtain ⟨ys, e'⟩ := q
  simp only at he hx hlt ⊢
  subst he
  refine AW.go ?_
  refine AW.cond rfl (fun hc2 => ?_) (fun hc2 => ?_)
  · have hne : e ≠ 0 := by simpa using hc2
    simp only [if_pos hne]
    refine AW.go ?_
    refine AW.finE (.move rfl (.pv _ .nil)) rfl
  have hne : ¬ e ≠ 0 := by simpa using hc2
  simp only [if_neg hne]
  have hxy := hx (by simpa using hne)
  subst hxy
  refine AW.go ?_
  refine AW.callE (fun _ => 0) (encV_fn xs hlt) (.lend rfl co_39 .nil) ?_
  refine AW.go ?_
  refine AW.callE (fun _ => 0) (bytesEqual_fn (encV xs).1 (t :: r) (encV_byte _) hb) (.lend rfl co_5 (.pv _ .nil)) ?_
  refine AW.go ?_
  refine AW.cond rfl (fun hc2 => ?_) (fun hc2 => ?_)
  · have hne : ¬ (encV xs).1 = t :: r := by simpa using hc2
    simp only [if_neg hne]
    refine AW.go ?_
    refine AW.finE (.move rfl (.pv _ .nil)) rfl
  · have hne : (encV xs).1 = t :: r := by simpa using hc2
    simp only [if_pos hne]
    refine AW.go ?_
    refine AW.finE (.move rfl (.pv _ .nil)) rfl
end Go.Ck

set_option linter.unusedVariables false
namespace Go.Ck
/-- As many as asked for. -/
theorem dec10_n (l : List Nat) (n : Nat) (h : (dec10 l n).2 = 0) : (dec10 l n).1.length = n := by
  unfold dec10 dec10b at *
  split at h <;> rename_i h1
  · exact absurd h h1
  rw [if_neg h1]
  split at h <;> rename_i h2
  · cases h
  rw [if_neg h2]
  split at h <;> rename_i h3
  · cases h
  rw [if_neg h3]
  split at h <;> rename_i h4
  · cases h
  rw [if_neg h4]
  split at h <;> rename_i h5
  · cases h
  rw [if_neg h5]
  split at h <;> rename_i h6
  · rw [if_pos h6]; exact pats_len _ _ _
  · cases h
theorem dec09_n (l : List Nat) (n : Nat) (h : (dec09 l n).2 = 0) : (dec09 l n).1.length = n := by
  unfold dec09 at *
  split at h <;> rename_i h1
  · exact absurd h h1
  rw [if_neg h1]
  split at h <;> rename_i h2
  · rw [if_pos h2]; exact (gR_ok (unb_bit l) n (by simpa using h1)).len
  · cases h
theorem rd11_n (l : List Nat) (n t : Nat) (h : (rd11 l n t).2 = 0) : (rd11 l n t).1.length = n := by
  unfold rd11 at *
  by_cases h2 : t = 2
  · rw [if_pos h2] at h ⊢; exact dec10_n l n h
  rw [if_neg h2] at h ⊢
  by_cases h3 : t = 3
  · rw [if_pos h3] at h ⊢; exact dec09_n l n h
  rw [if_neg h3] at h ⊢
  generalize 8 * (if t = 1 then 1 else n) = m at *
  by_cases h4 : l.length < m
  · rw [if_pos h4] at h; cases h
  rw [if_neg h4] at h ⊢
  by_cases h5 : l.length ≠ m
  · rw [if_pos h5] at h; cases h
  rw [if_neg h5]
  by_cases h1 : t = 1
  · simp [h1]
  · simp [h1, dic_len]
/-- What a decoding that went well tells. -/
theorem dec11_ok {l : List Nat} {n : Int} (h : (dec11 l n).2 = 0) : 0 ≤ n ∧ n ≤ 65536 ∧ ∃ t r, l = t :: r ∧ t < 4 ∧ (rd11 r n.toNat t).2 = 0 ∧ (dec11 l n).1 = (rd11 r n.toNat t).1 ∧ (encV (dec11 l n).1).1 = l := by
  by_cases hn : n < 0 ∨ 65536 < n
  · rw [dec11_arg hn] at h; cases h
  refine ⟨by omega, by omega, ?_⟩
  obtain ⟨n, rfl⟩ : ∃ m : Nat, n = m := ⟨n.toNat, by omega⟩
  cases l with
  | nil => rw [dec11_nil hn] at h; cases h
  | cons t r =>
    rw [dec11_cons t r hn] at h ⊢
    rw [Int.toNat_natCast]
    split at h <;> rename_i h1
    · cases h
    rw [if_neg h1]
    split at h <;> rename_i h2
    · exact absurd h h2
    rw [if_neg h2]
    split at h <;> rename_i h3
    · rw [if_pos h3]
      exact ⟨t, r, rfl, by omega, by simpa using h2, rfl, h3⟩
    · cases h
theorem dec11_n {l : List Nat} {n : Int} (h : (dec11 l n).2 = 0) : (dec11 l n).1.length = n.toNat := by
  obtain ⟨_, _, t, r, rfl, _, h1, h2, _⟩ := dec11_ok h
  rw [h2, rd11_n r _ t h1]
end Go.Ck

set_option linter.unusedVariables false
namespace Go.Ck
theorem foldl_base (b : Nat) : ∀ (l : List Nat) (a : Nat), l.foldl (fun a x => a * b + x) a = a * b ^ l.length + l.foldl (fun a x => a * b + x) 0
  | [], a => by simp
  | x :: r, a => by
    rw [List.foldl_cons, foldl_base b r (a * b + x), List.foldl_cons, foldl_base b r (0 * b + x), List.length_cons, Nat.pow_succ, Nat.zero_mul, Nat.zero_add, Nat.add_mul, Nat.mul_assoc, Nat.mul_comm b (b ^ r.length), Nat.add_assoc]
theorem binN_cons (x : Nat) (l : List Nat) : binN (x :: l) = x * 2 ^ l.length + binN l := by
  have := foldl_base 2 l (0 * 2 + x)
  rw [binN, List.foldl_cons, this, Nat.zero_mul, Nat.zero_add]; rfl
theorem binN_binB (v n : Nat) : binN (binB v n) = v % 2 ^ n := by
  induction n with
  | zero => simp [binB, binN, Nat.mod_one]
  | succ n ih => rw [binB, binN_cons, binB_len, ih, Nat.pow_succ, Nat.mod_mul]; rw [Nat.mul_comm, Nat.add_comm]
theorem rdv_leb (n : Nat) : ∀ (v : Nat), v ≤ n → ∀ (k acc : Nat) (r : List Nat), v * 128 ^ k < 2 ^ 64 → (k = 0 ∨ v ≠ 0) → k ≤ 9 → rdv k acc (leb v ++ r) = (acc + v * 128 ^ k, k + (leb v).length, 0) := by
  induction n using Nat.strongRecOn with
  | _ n ih =>
    intro v hv k acc r hlt h0 hk
    have h9 : k = 9 → v < 2 := by
      rintro rfl
      have : v * 128 ^ 9 < 2 * 128 ^ 9 := by omega
      exact Nat.lt_of_mul_lt_mul_right this
    by_cases h : v < 128
    · rw [leb_lt h, List.singleton_append, rdv, if_neg (by omega), if_neg (by omega), if_neg (by omega)]; rfl
    · rw [leb_ge h, List.cons_append, rdv, if_neg (by omega), if_pos (by omega)]
      have hp : 128 ^ (k + 1) = 128 ^ k * 128 := Nat.pow_succ ..
      have hd : v = v / 128 * 128 + v % 128 := by omega
      have he : v * 128 ^ k = v / 128 * 128 ^ (k + 1) + v % 128 * 128 ^ k := by
        rw [hp, Nat.mul_comm (128 ^ k), ← Nat.mul_assoc, ← Nat.add_mul, ← hd]
      have hk9 : k ≠ 9 := fun e => by have := h9 e; omega
      rw [show (v % 128 + 128) % 128 = v % 128 by omega, ih (v / 128) (by omega) (v / 128) (Nat.le_refl _) (k + 1) _ r (by omega) (.inr (by omega)) (by omega), List.length_cons]
      refine Prod.ext ?_ (Prod.ext ?_ rfl)
      · simp only; omega
      · simp only; omega
theorem readV_leb {v : Nat} (h : v < 2 ^ 64) (r : List Nat) : readV (leb v ++ r) = (v, (leb v).length, 0) := by
  rw [readV_eq, rdv_leb v v (Nat.le_refl _) 0 0 r (by simpa using h) (.inl rfl) (by omega)]
  simp
/-- The bits of packed bits. -/
theorem pk_bits (l : List Nat) : (∀ x ∈ l, x < 2) → ∀ k, (pk l).getD (k / 8) 0 / 2 ^ (7 - k % 8) % 2 = l.getD k 0 := by
  induction l using snoc_ind with
  | h0 => intro _ k; simp [pk]
  | h1 l b ih =>
    intro hb k
    have ih := ih (fun x hx => hb x (by simp [hx]))
    have hb2 := hb b (by simp)
    have hk := pk_len l
    have e0 : (l ++ [b]).getD k 0 = if k = l.length then b else l.getD k 0 := by
      simp only [List.getD_eq_getElem?_getD, List.getElem?_append]
      by_cases h1 : k < l.length
      · rw [if_pos h1, if_neg (by omega)]
      · rw [if_neg h1]
        by_cases h2 : k = l.length
        · subst h2; simp
        · rw [if_neg h2, List.getElem?_eq_none (l := [b]) (by simp only [List.length_singleton]; omega), List.getElem?_eq_none (l := l) (by omega)]
    have key : ∀ (q m i : Nat), m < 8 → i < 8 → i ≠ m → (q * 2 ^ (8 - m) + b * 2 ^ (7 - m)) / 2 ^ (7 - i) % 2 = q * 2 ^ (8 - m) / 2 ^ (7 - i) % 2 := by
      intro q m i hm hi hne
      have e8 : 2 ^ (8 - m) = 2 * 2 ^ (7 - m) := by rw [← Nat.pow_succ']; congr 1; omega
      have eq1 : q * 2 ^ (8 - m) + b * 2 ^ (7 - m) = (2 * q + b) * 2 ^ (7 - m) := by rw [e8, ← Nat.mul_assoc, ← Nat.add_mul, Nat.mul_comm q 2]
      have eq2 : q * 2 ^ (8 - m) = (2 * q) * 2 ^ (7 - m) := by rw [e8, ← Nat.mul_assoc, Nat.mul_comm q 2]
      rw [eq1, eq2]
      by_cases him : i < m
      · have e7 : 2 ^ (7 - i) = 2 ^ (7 - m) * 2 ^ (m - i) := by rw [← Nat.pow_add]; congr 1; omega
        rw [e7, ← Nat.div_div_eq_div_mul, ← Nat.div_div_eq_div_mul, Nat.mul_div_cancel _ (Nat.two_pow_pos _), Nat.mul_div_cancel _ (Nat.two_pow_pos _)]
        have e1 : 2 ^ (m - i) = 2 * 2 ^ (m - i - 1) := by rw [← Nat.pow_succ']; congr 1; omega
        rw [e1, ← Nat.div_div_eq_div_mul, ← Nat.div_div_eq_div_mul, show (2 * q + b) / 2 = q by omega, show 2 * q / 2 = q by omega]
      · have e7 : 2 ^ (7 - m) = 2 ^ (i - m - 1) * 2 * 2 ^ (7 - i) := by rw [← Nat.pow_succ, ← Nat.pow_add]; congr 1; omega
        rw [e7, ← Nat.mul_assoc, ← Nat.mul_assoc (2 * q), Nat.mul_div_cancel _ (Nat.two_pow_pos _), Nat.mul_div_cancel _ (Nat.two_pow_pos _), ← Nat.mul_assoc, ← Nat.mul_assoc, Nat.mul_mod_left, Nat.mul_mod_left]
    have same : ∀ (q m : Nat), m < 8 → (q * 2 ^ (8 - m) + b * 2 ^ (7 - m)) / 2 ^ (7 - m) % 2 = b := by
      intro q m hm
      have e8 : 2 ^ (8 - m) = 2 * 2 ^ (7 - m) := by rw [← Nat.pow_succ']; congr 1; omega
      have eq1 : q * 2 ^ (8 - m) + b * 2 ^ (7 - m) = (2 * q + b) * 2 ^ (7 - m) := by rw [e8, ← Nat.mul_assoc, ← Nat.add_mul, Nat.mul_comm q 2]
      rw [eq1, Nat.mul_div_cancel _ (Nat.two_pow_pos _)]
      omega
    rw [e0, pk_snoc]
    by_cases h8 : l.length % 8 = 0
    · rw [if_pos h8]
      have e1 : (pk l ++ [b * 128]).getD (k / 8) 0 = if k / 8 = l.length / 8 then b * 128 else (pk l).getD (k / 8) 0 := by
        simp only [List.getD_eq_getElem?_getD, List.getElem?_append]
        by_cases h1 : k / 8 < (pk l).length
        · rw [if_pos h1, if_neg (by omega)]
        · rw [if_neg h1]
          by_cases h2 : k / 8 = l.length / 8
          · rw [if_pos h2, show k / 8 - (pk l).length = 0 by omega]; rfl
          · rw [if_neg h2, List.getElem?_eq_none (l := [b * 128]) (by simp only [List.length_singleton]; omega), List.getElem?_eq_none (l := pk l) (by omega)]
      rw [e1]
      by_cases h2 : k / 8 = l.length / 8
      · rw [if_pos h2]
        by_cases h3 : k = l.length
        · rw [if_pos h3]
          have := same 0 0 (by omega)
          rw [show k % 8 = 0 by omega]; simpa using this
        · rw [if_neg h3]
          have h4 : l.getD k 0 = 0 := by rw [List.getD_eq_getElem?_getD, List.getElem?_eq_none (by omega)]; rfl
          have := key 0 0 (k % 8) (by omega) (by omega) (by omega)
          rw [h4]; simpa using this
      · rw [if_neg h2, if_neg (fun e => h2 (by rw [e]))]
        exact ih k
    · rw [if_neg h8, getD_set]
      by_cases h2 : l.length / 8 = k / 8
      · rw [if_pos ⟨h2, by omega⟩]
        have hdiv : (pk l).getD (l.length / 8) 0 = (pr l).getD (l.length / 8) 0 * 2 ^ (8 - l.length % 8) := by
          have := pr_pk l (l.length / 8)
          rw [if_pos rfl, show (8 - l.length % 8) % 8 = 8 - l.length % 8 by omega] at this
          exact this
        have ihk := ih k
        rw [← h2, hdiv] at ihk
        rw [hdiv]
        by_cases h3 : k = l.length
        · rw [if_pos h3, h3]; exact same _ _ (by omega)
        · rw [if_neg h3, key _ _ (k % 8) (by omega) (by omega) (by omega)]
          exact ihk
      · rw [if_neg (fun h => h2 h.1), if_neg (fun e => h2 (by rw [e]))]
        exact ih k
theorem unb_pk {l : List Nat} (h : ∀ x ∈ l, x < 2) : unb (pk l) = l ++ List.replicate (8 * ((l.length + 7) / 8) - l.length) 0 := by
  refine ext_getD (by rw [unb_len, pk_len, List.length_append, List.length_replicate]; omega) (fun k => ?_)
  have e1 : (unb (pk l)).getD k 0 = (pk l).getD (k / 8) 0 / 2 ^ (7 - k % 8) % 2 := by
    by_cases hk : k / 8 < (pk l).length
    · rw [List.getD_eq_getElem?_getD, unb_get _ _ hk, getD_get hk]; rfl
    · rw [List.getD_eq_getElem?_getD, List.getElem?_eq_none (by rw [unb_len]; omega), List.getD_eq_getElem?_getD, List.getElem?_eq_none (by omega)]; simp
  rw [e1, pk_bits l h]
  simp only [List.getD_eq_getElem?_getD, List.getElem?_append]
  by_cases hk : k < l.length
  · rw [if_pos hk]
  · rw [if_neg hk, List.getElem?_eq_none (by omega), List.getElem?_replicate]
    split <;> rfl
end Go.Ck

set_option linter.unusedVariables false
namespace Go.Ck
end Go.Ck

set_option linter.unusedVariables false
namespace Go.Ck
end Go.Ck

set_option linter.unusedVariables false
namespace Go.Ck
end Go.Ck

set_option linter.unusedVariables false
namespace Go.Ck
def zig (n : Int) : Nat := if 0 ≤ n then (2 * n).toNat else (2 * (-(n + 1)) + 1).toNat
def zag (v : Nat) : Int := if v % 2 = 0 then ((v / 2 : Nat) : Int) else -((v / 2 : Nat) : Int) - 1
def i64r (n : Int) : Prop := -2 ^ 63 ≤ n ∧ n < 2 ^ 63
theorem zig_lt {n : Int} (h : i64r n) : zig n < 2 ^ 64 := by unfold i64r at h; unfold zig; split <;> omega
theorem zag_r {v : Nat} (h : v < 2 ^ 64) : i64r (zag v) := by unfold zag i64r; split <;> omega
theorem xor_ones {a : Nat} (h : a < 2 ^ 64) : ibits .xor .u64 (a : Int) ((2 ^ 64 - 1 : Nat) : Int) = ((2 ^ 64 - 1 - a : Nat) : Int) := by
  have e : (BitVec.ofNat 64 (2 ^ 64 - 1)) = BitVec.allOnes 64 := by decide
  simp only [ibits, ofInt_nat]
  rw [show IntKind.u64.bits = 64 from rfl, e, BitVec.xor_allOnes, BitVec.toNat_not, BitVec.toNat_ofNat, Nat.mod_eq_of_lt h, wrap_u64_lt (by omega)]
theorem xor_zero {a : Nat} (h : a < 2 ^ 64) : ibits .xor .u64 (a : Int) 0 = (a : Int) := by
  have := ibits_xor64 (a := a) (b := 0) h (by omega)
  simpa using this
theorem wrap_i64_r (n : Int) : i64r (IntKind.i64.wrap n) := by rw [IntKind.wrap_i64]; unfold i64r; omega
theorem zig_val {n : Int} (h : i64r n) : ibits .xor .u64 (shlI .u64 (IntKind.u64.wrap n) 1) (IntKind.u64.wrap (shrI .i64 n 63)) = (zig n : Int) := by
  have h1 : IntKind.u64.wrap n = ((n % 2 ^ 64).toNat : Int) := by rw [IntKind.wrap_u64]; omega
  have hs : shrI .i64 n 63 = if 0 ≤ n then 0 else -1 := by
    unfold i64r at h
    unfold shrI
    have e : (2 : Int) ^ (min (63 : Int).toNat IntKind.i64.bits) = 9223372036854775808 := by decide
    rw [e, Int.fdiv_eq_ediv_of_nonneg _ (by omega)]
    split <;> omega
  have h2 := shlI_nat64 (n % 2 ^ 64).toNat 1 (by omega)
  rw [h1, hs]
  rw [show ((1 : Nat) : Int) = 1 from rfl] at h2
  rw [h2]
  unfold i64r at h
  by_cases h0 : 0 ≤ n
  · rw [if_pos h0, show IntKind.u64.wrap 0 = 0 by decide, xor_zero (Nat.mod_lt _ (by omega))]
    unfold zig; rw [if_pos h0]; omega
  · rw [if_neg h0, show IntKind.u64.wrap (-1) = ((2 ^ 64 - 1 : Nat) : Int) by decide, xor_ones (Nat.mod_lt _ (by omega))]
    unfold zig; rw [if_neg h0]; omega
theorem xor_i64 {a : Nat} (h : a < 2 ^ 63) : ibits .xor .i64 (a : Int) (-1) = -(a : Int) - 1 := by
  have e : (BitVec.ofInt 64 (-1)) = BitVec.allOnes 64 := by decide
  simp only [ibits, ofInt_nat]
  rw [show IntKind.i64.bits = 64 from rfl, e, BitVec.xor_allOnes, BitVec.toNat_not, BitVec.toNat_ofNat, Nat.mod_eq_of_lt (by omega), IntKind.wrap_i64]
  omega
theorem xor_i64_0 {a : Nat} (h : a < 2 ^ 63) : ibits .xor .i64 (a : Int) 0 = (a : Int) := by
  have e : (BitVec.ofInt 64 0) = 0#64 := by decide
  simp only [ibits, ofInt_nat]
  rw [show IntKind.i64.bits = 64 from rfl, e, BitVec.xor_zero, BitVec.toNat_ofNat, Nat.mod_eq_of_lt (by omega), wrap_i64_nat h]
theorem zag_val {v : Nat} (h : v < 2 ^ 64) : ibits .xor .i64 (IntKind.i64.wrap (shrI .u64 (v : Int) 1)) (IntKind.i64.wrap (0 - IntKind.i64.wrap (ibits .and .u64 (v : Int) 1))) = zag v := by
  have h1 := shrI_nat .u64 v 1 (by decide)
  rw [show ((1 : Nat) : Int) = 1 from rfl] at h1
  rw [h1, and_one h, wrap_i64_nat (n := v / 2 ^ 1) (by omega), wrap_i64_nat (n := v % 2) (by omega)]
  unfold zag
  by_cases h0 : v % 2 = 0
  · rw [h0, if_pos rfl, show IntKind.i64.wrap (0 - ((0 : Nat) : Int)) = 0 by decide]
    exact xor_i64_0 (by omega)
  · rw [if_neg h0, show v % 2 = 1 by omega, show IntKind.i64.wrap (0 - ((1 : Nat) : Int)) = -1 by decide]
    exact xor_i64 (by omega)
/-- What lies between numbers, behind one that stands ahead. -/
def dif : Int → List Int → List Int
  | _, [] => []
  | p, x :: r => IntKind.i64.wrap (x - p) :: dif x r
def acc : Int → List Int → List Int
  | _, [] => []
  | p, x :: r => IntKind.i64.wrap (x + p) :: acc (IntKind.i64.wrap (x + p)) r
theorem dif_len : ∀ (p : Int) (l : List Int), (dif p l).length = l.length
  | _, [] => rfl
  | p, x :: r => by simp [dif, dif_len x r]
theorem acc_len : ∀ (p : Int) (l : List Int), (acc p l).length = l.length
  | _, [] => rfl
  | p, x :: r => by simp [acc, acc_len _ r]
theorem dif_r : ∀ (p : Int) (l : List Int), ∀ x ∈ dif p l, i64r x
  | _, [] => by simp [dif]
  | p, x :: r => by
    intro y hy
    rcases List.mem_cons.1 hy with rfl | hy
    · exact wrap_i64_r _
    · exact dif_r x r y hy
theorem acc_r : ∀ (p : Int) (l : List Int), ∀ x ∈ acc p l, i64r x
  | _, [] => by simp [acc]
  | p, x :: r => by
    intro y hy
    rcases List.mem_cons.1 hy with rfl | hy
    · exact wrap_i64_r _
    · exact acc_r _ r y hy
/-- From place j + 1 on. -/
def stepD (j : Nat) (l : List Int) : List Int := l.take (j + 1) ++ dif (l.getD j 0) (l.drop (j + 1))
def stepA (j : Nat) (l : List Int) : List Int := l.take (j + 1) ++ acc (l.getD j 0) (l.drop (j + 1))
theorem stepD_len (j : Nat) (l : List Int) : (stepD j l).length = l.length := by simp [stepD, dif_len]; omega
theorem stepA_len (j : Nat) (l : List Int) : (stepA j l).length = l.length := by simp [stepA, acc_len]; omega
theorem step_parts {l d : List Int} {j : Nat} (hd : d.length = l.length - (j + 1)) : (l.take (j + 1) ++ d).take (j + 1) = l.take (j + 1) ∧ (l.take (j + 1) ++ d).drop (j + 1) = d ∧ (l.take (j + 1) ++ d).getD j 0 = l.getD j 0 := by
  by_cases h : j + 1 ≤ l.length
  · have hl : (l.take (j + 1)).length = j + 1 := by simp; omega
    refine ⟨?_, ?_, ?_⟩
    · rw [List.take_append_of_le_length (by omega), List.take_of_length_le (l := l.take (j + 1)) (by omega)]
    · rw [List.drop_append_of_le_length (by omega), List.drop_of_length_le (l := l.take (j + 1)) (by omega), List.nil_append]
    · rw [List.getD_eq_getElem?_getD, List.getElem?_append_left (by omega), List.getElem?_take, if_pos (by omega), List.getD_eq_getElem?_getD]
  · have hd0 : d = [] := List.length_eq_zero_iff.1 (by omega)
    subst hd0
    have ht : l.take (j + 1) = l := List.take_of_length_le (by omega)
    rw [List.append_nil, ht]
    exact ⟨ht, List.drop_of_length_le (by omega), rfl⟩
theorem stepD_r (j : Nat) {l : List Int} (h : ∀ x ∈ l, i64r x) : ∀ x ∈ stepD j l, i64r x := by
  intro x hx
  rcases List.mem_append.1 hx with hx | hx
  · exact h x (List.mem_of_mem_take hx)
  · exact dif_r _ _ x hx
theorem stepA_r (j : Nat) {l : List Int} (h : ∀ x ∈ l, i64r x) : ∀ x ∈ stepA j l, i64r x := by
  intro x hx
  rcases List.mem_append.1 hx with hx | hx
  · exact h x (List.mem_of_mem_take hx)
  · exact acc_r _ _ x hx
def diffS (l : List Int) : Nat → List Int
  | 0 => l
  | k + 1 => stepD k (diffS l k)
def sumS (l : List Int) : Nat → List Int
  | 0 => l
  | k + 1 => sumS (stepA k l) k
theorem diffS_len (l : List Int) : ∀ k, (diffS l k).length = l.length
  | 0 => rfl
  | k + 1 => by rw [diffS, stepD_len, diffS_len l k]
theorem sumS_len : ∀ (k : Nat) (l : List Int), (sumS l k).length = l.length
  | 0, l => rfl
  | k + 1, l => by rw [sumS, sumS_len k, stepA_len]
theorem diffS_r {l : List Int} (h : ∀ x ∈ l, i64r x) : ∀ k, ∀ x ∈ diffS l k, i64r x
  | 0 => h
  | k + 1 => stepD_r k (diffS_r h k)
theorem sumS_r : ∀ (k : Nat) {l : List Int} (h : ∀ x ∈ l, i64r x), ∀ x ∈ sumS l k, i64r x
  | 0, l, h => h
  | k + 1, l, h => sumS_r k (stepA_r k h)
theorem stepD_big {l : List Int} {j : Nat} (h : l.length ≤ j + 1) : stepD j l = l := by
  rw [stepD, List.take_of_length_le h, List.drop_of_length_le h]; simp [dif]
theorem stepA_big {l : List Int} {j : Nat} (h : l.length ≤ j + 1) : stepA j l = l := by
  rw [stepA, List.take_of_length_le h, List.drop_of_length_le h]; simp [acc]
/-- Steps that find nothing behind their place. -/
theorem diffS_min (l : List Int) : ∀ k, diffS l k = diffS l (min k l.length)
  | 0 => by simp
  | k + 1 => by
    by_cases h : k + 1 ≤ l.length
    · rw [Nat.min_eq_left h]
    · rw [diffS, stepD_big (by rw [diffS_len]; omega), diffS_min l k, Nat.min_eq_right (by omega), Nat.min_eq_right (by omega)]
theorem sumS_min : ∀ (k : Nat) (l : List Int), sumS l k = sumS l (min k l.length)
  | 0, l => by simp
  | k + 1, l => by
    by_cases h : k + 1 ≤ l.length
    · rw [Nat.min_eq_left h]
    · rw [sumS, stepA_big (by omega), sumS_min k l, Nat.min_eq_right (by omega), Nat.min_eq_right (by omega)]
end Go.Ck
namespace Go.Ck
/-- How often a way takes differences. -/
def oft (t : Nat) : Nat := if t = 0 then 0 else if t = 3 ∨ t = 4 then 2 else 1
theorem oft_le (t : Nat) : oft t ≤ 3 := by unfold oft; split <;> (try split) <;> omega
end Go.Ck

set_option linter.unusedVariables false
set_option maxRecDepth 10000
set_option maxHeartbeats 1000000
namespace Go.Ck
open Go.Proofs
theorem clone_ints (l : List Int) (hl : l.length ≤ 2 ^ 40) : Fn Tryz.prog 77 [] [.pv (.sl 1 (ints l))] (fun rs H' => rs = [.own 3 (ints l)] ∧ H' = []) := by
  refine Fn.of_body (fn := Tryz.f77) (n := 8) (res := [.tmp 2]) (by kernel_rfl) rfl rfl rfl rfl rfl (fun C => ?_)
  have hr : room = 140737488355328 := rfl
  refine AW.go ?_
  refine AW.eqNil (.inl rfl) rfl rfl rfl tk_42 (by simp only [go_sem, ↓reduceIte] <;> rfl) rfl rfl rfl (fun b hb => ?_)
  refine AW.go ?_
  refine AW.cond (b := b) (by simp only [go_sem, ↓reduceIte] <;> rfl) (fun h1 => ?_) (fun h1 => ?_)
  · have hx : l = [] := by simpa [ints] using hb h1
    subst hx
    refine AW.go ?_
    refine AW.finE (.move rfl .nil) rfl
  · have h2 : l.length * 8 ≤ room := by omega
    have h3 : l.length ≤ room := by omega
    refine AW.go ?_ (by simp only [go_sem, ↓reduceIte, h2, h3] <;> rfl)
    refine AW.finE (.move rfl .nil) rfl
theorem zig_fn (n : Int) (h : i64r n) : Fn Tryz.prog 64 [] [.pv (.int .i64 n)] (fun rs H' => rs = [.pv (.int .u64 (zig n : Nat))] ∧ H' = []) := by
  refine Fn.of_body (fn := Tryz.f64) (n := 10) (res := [.tmp 2]) (by kernel_rfl) rfl rfl rfl rfl rfl (fun C => ?_)
  have e := zig_val h
  refine AW.go ?_ (by simp only [go_sem, ↓reduceIte, e] <;> rfl)
  refine AW.finE (.pv _ .nil) rfl
theorem zag_fn (v : Nat) (h : v < 2 ^ 64) : Fn Tryz.prog 53 [] [.pv (.int .u64 v)] (fun rs H' => rs = [.pv (.int .i64 (zag v))] ∧ H' = []) := by
  refine Fn.of_body (fn := Tryz.f53) (n := 11) (res := [.tmp 2]) (by kernel_rfl) rfl rfl rfl rfl rfl (fun C => ?_)
  have e := zag_val h
  refine AW.go ?_ (by simp only [go_sem, ↓reduceIte, e] <;> rfl)
  refine AW.finE (.pv _ .nil) rfl
theorem refZig_fn (n : Int) (h : i64r n) : Fn Tryz.prog 95 [] [.pv (.int .i64 n)] (fun rs H' => rs = [.pv (.int .u64 (zig n : Nat))] ∧ H' = []) := by
  refine Fn.of_body (fn := Tryz.f95) (n := 14) (res := [.tmp 2]) (by kernel_rfl) rfl rfl rfl rfl rfl (fun C => ?_)
  unfold i64r at h
  refine AW.go ?_
  refine AW.cond rfl (fun hc => ?_) (fun hc => ?_)
  · have h0 : 0 ≤ n := by simpa using hc
    have e : IntKind.u64.wrap (2 * IntKind.u64.wrap n) = (zig n : Nat) := by
      unfold zig; rw [if_pos h0, IntKind.wrap_u64, IntKind.wrap_u64]; omega
    refine AW.go ?_ (by simp only [go_sem, ↓reduceIte, e] <;> rfl)
    refine AW.finE (.pv _ .nil) rfl
  · have h0 : ¬ 0 ≤ n := by simp at hc; omega
    have e : IntKind.u64.wrap (IntKind.u64.wrap (2 * IntKind.u64.wrap (IntKind.i64.wrap (0 - IntKind.i64.wrap (n + 1)))) + 1) = (zig n : Nat) := by
      unfold zig; rw [if_neg h0, wrap_i64_of (n := n + 1) (by omega) (by omega), wrap_i64_of (by omega) (by omega), IntKind.wrap_u64, IntKind.wrap_u64, IntKind.wrap_u64]; omega
    refine AW.go ?_ (by simp only [go_sem, ↓reduceIte, e] <;> rfl)
    refine AW.finE (.pv _ .nil) rfl
theorem refZag_fn (v : Nat) (h : v < 2 ^ 64) : Fn Tryz.prog 59 [] [.pv (.int .u64 v)] (fun rs H' => rs = [.pv (.int .i64 (zag v))] ∧ H' = []) := by
  refine Fn.of_body (fn := Tryz.f59) (n := 14) (res := [.tmp 2]) (by kernel_rfl) rfl rfl rfl rfl rfl (fun C => ?_)
  have e1 : Int.tmod (v : Int) 2 = ((v % 2 : Nat) : Int) := rfl
  have e2 : Int.tdiv (v : Int) 2 = ((v / 2 : Nat) : Int) := rfl
  have e3 : IntKind.u64.wrap ((v / 2 : Nat) : Int) = ((v / 2 : Nat) : Int) := wrap_u64_lt (by omega)
  have e4 : IntKind.i64.wrap ((v / 2 : Nat) : Int) = ((v / 2 : Nat) : Int) := wrap_i64_nat (by omega)
  refine AW.go ?_ (by simp only [go_sem, ↓reduceIte, e1] <;> rfl)
  refine AW.cond rfl (fun hc => ?_) (fun hc => ?_)
  · have h0 : v % 2 = 0 := by simp at hc; omega
    have e : zag v = ((v / 2 : Nat) : Int) := by unfold zag; rw [if_pos h0]
    rw [e]
    refine AW.go ?_ (by simp only [go_sem, ↓reduceIte, e2, e3, e4] <;> rfl)
    refine AW.finE (.pv _ .nil) rfl
  · have h0 : ¬ v % 2 = 0 := by simp at hc; omega
    have e : zag v = -((v / 2 : Nat) : Int) - 1 := by unfold zag; rw [if_neg h0]
    have e5 : IntKind.i64.wrap (IntKind.i64.wrap (0 - ((v / 2 : Nat) : Int)) - 1) = zag v := by rw [e, wrap_i64_of (n := 0 - ((v / 2 : Nat) : Int)) (by omega) (by omega), wrap_i64_of (by omega) (by omega)]; omega
    refine AW.go ?_ (by simp only [go_sem, ↓reduceIte, e2, e3, e4, e5] <;> rfl)
    refine AW.finE (.pv _ .nil) rfl
theorem often_fn (t : Nat) : Fn Tryz.prog 55 [] [.pv (.int .i64 t)] (fun rs H' => rs = [.pv (.int .i64 (oft t : Nat))] ∧ H' = []) := by
  refine Fn.of_body (fn := Tryz.f55) (n := 10) (res := [.tmp 2]) (by kernel_rfl) rfl rfl rfl rfl rfl (fun C => ?_)
  unfold oft
  refine AW.go ?_
  refine AW.cond rfl (fun hc => ?_) (fun hc => ?_)
  · have h0 : t = 0 := by simpa using hc
    rw [if_pos h0]
    refine AW.go ?_
    refine AW.finE (.pv _ .nil) rfl
  have h0 : ¬ t = 0 := by simpa using hc
  rw [if_neg h0]
  refine AW.go ?_
  refine AW.cond rfl (fun hc => ?_) (fun hc => ?_)
  · have h3 : t = 3 := by simp at hc; omega
    rw [if_pos (.inl h3)]
    refine AW.go ?_
    refine AW.finE (.pv _ .nil) rfl
  have h3 : ¬ t = 3 := by simp at hc; omega
  refine AW.go ?_
  refine AW.cond rfl (fun hc => ?_) (fun hc => ?_)
  · have h4 : t = 4 := by simp at hc; omega
    rw [if_pos (.inr h4)]
    refine AW.go ?_
    refine AW.finE (.pv _ .nil) rfl
  have h4 : ¬ t = 4 := by simp at hc; omega
  rw [if_neg (fun h => h.elim h3 h4)]
  refine AW.go ?_
  refine AW.finE (.pv _ .nil) rfl
end Go.Ck

set_option linter.unusedVariables false
namespace Go.Ck
theorem ints_set (l : List Int) (i : Nat) (n : Int) : (ints l).set i (.int .i64 n) = ints (l.set i n) := by simp [ints, List.map_set]
def spl {α : Type} (D M : List α) (i : Nat) : List α := D.take i ++ M.drop i
section
variable {α : Type} {D M : List α}
theorem spl_len (h : D.length = M.length) (i : Nat) : (spl D M i).length = M.length := by
  unfold spl; rw [List.length_append, List.length_take, List.length_drop]; omega
theorem spl_all (h : D.length = M.length) {i : Nat} (hi : M.length ≤ i) : spl D M i = D := by
  unfold spl; rw [List.take_of_length_le (by omega), List.drop_of_length_le hi, List.append_nil]
theorem spl_get (h : D.length = M.length) {i : Nat} (hi : i < M.length) : (spl D M i)[i]? = M[i]? := by
  unfold spl; rw [List.getElem?_append_right (by simp; omega), List.getElem?_drop]; congr 1; simp; omega
theorem spl_get1 (h : D.length = M.length) {i k : Nat} (hi : i ≤ M.length) (hk : k < i) : (spl D M i)[k]? = D[k]? := by
  unfold spl; rw [List.getElem?_append_left (by simp; omega), List.getElem?_take, if_pos hk]
theorem spl_set (h : D.length = M.length) {i : Nat} (hi : i < M.length) {x : α} (hx : D[i]? = some x) : (spl D M i).set i x = spl D M (i + 1) := by
  have hl : (D.take i).length = i := by simp; omega
  unfold spl
  rw [List.set_append_right i x (by omega), hl, Nat.sub_self, List.drop_eq_getElem_cons hi, List.set_cons_zero, List.take_add_one, hx]
  simp
end
theorem dif_get : ∀ (l : List Int) (p : Int) (k : Nat) (x : Int), l[k]? = some x → (dif p l)[k]? = some (IntKind.i64.wrap (x - (if k = 0 then p else l.getD (k - 1) 0)))
  | [], p, k, x, h => by simp at h
  | y :: r, p, 0, x, h => by simp at h; subst h; simp [dif]
  | y :: r, p, k + 1, x, h => by
    have := dif_get r y k x (by simpa using h)
    rw [dif, List.getElem?_cons_succ, this]
    congr 3
    cases k with
    | zero => simp
    | succ k => simp
theorem acc_get : ∀ (l : List Int) (p : Int) (k : Nat) (x : Int), l[k]? = some x → (acc p l)[k]? = some (IntKind.i64.wrap (x + (if k = 0 then p else (acc p l).getD (k - 1) 0)))
  | [], p, k, x, h => by simp at h
  | y :: r, p, 0, x, h => by simp at h; subst h; simp [acc]
  | y :: r, p, k + 1, x, h => by
    have := acc_get r (IntKind.i64.wrap (y + p)) k x (by simpa using h)
    rw [acc, List.getElem?_cons_succ, this]
    congr 3
    cases k with
    | zero => simp
    | succ k => simp
theorem stepD_get {l : List Int} {j i : Nat} (h : j < i) (hi : i < l.length) : (stepD j l)[i]? = some (IntKind.i64.wrap (l.getD i 0 - l.getD (i - 1) 0)) := by
  have hl : (l.take (j + 1)).length = j + 1 := by simp; omega
  have hx : (l.drop (j + 1))[i - (j + 1)]? = some (l.getD i 0) := by
    rw [List.getElem?_drop, show j + 1 + (i - (j + 1)) = i by omega, List.getD_eq_getElem?_getD, List.getElem?_eq_getElem hi]; rfl
  rw [stepD, List.getElem?_append_right (by omega), hl, dif_get _ _ _ _ hx]
  congr 3
  split
  · rw [show i - 1 = j by omega]
  · rw [List.getD_eq_getElem?_getD, List.getElem?_drop, List.getD_eq_getElem?_getD, show j + 1 + (i - (j + 1) - 1) = i - 1 by omega]
theorem stepA_get {l : List Int} {j i : Nat} (h : j < i) (hi : i < l.length) : (stepA j l)[i]? = some (IntKind.i64.wrap (l.getD i 0 + (stepA j l).getD (i - 1) 0)) := by
  have hl : (l.take (j + 1)).length = j + 1 := by simp; omega
  have hx : (l.drop (j + 1))[i - (j + 1)]? = some (l.getD i 0) := by
    rw [List.getElem?_drop, show j + 1 + (i - (j + 1)) = i by omega, List.getD_eq_getElem?_getD, List.getElem?_eq_getElem hi]; rfl
  have e : (if i - (j + 1) = 0 then l.getD j 0 else (acc (l.getD j 0) (l.drop (j + 1))).getD (i - (j + 1) - 1) 0) = (stepA j l).getD (i - 1) 0 := by
    rw [stepA, List.getD_eq_getElem?_getD (l := l.take (j + 1) ++ _)]
    split
    · rw [List.getElem?_append_left (by omega), List.getElem?_take, if_pos (by omega), show i - 1 = j by omega, List.getD_eq_getElem?_getD]
    · rw [List.getElem?_append_right (by omega), hl, List.getD_eq_getElem?_getD, show i - 1 - (j + 1) = i - (j + 1) - 1 by omega]
  rw [stepA, List.getElem?_append_right (by omega), hl, acc_get _ _ _ _ hx, e, stepA]
theorem stepD_head {l : List Int} {j i : Nat} (h : i ≤ j) (hi : i < l.length) : (stepD j l)[i]? = l[i]? := by
  rw [stepD, List.getElem?_append_left (by simp; omega), List.getElem?_take, if_pos (by omega)]
theorem stepD_spl (j : Nat) (l : List Int) : spl (stepD j l) l (j + 1) = l := by
  unfold spl
  rw [show (stepD j l).take (j + 1) = l.take (j + 1) from (step_parts (l := l) (j := j) (by rw [dif_len]; simp)).1, List.take_append_drop]
theorem stepA_spl (j : Nat) (l : List Int) : spl (stepA j l) l (j + 1) = l := by
  unfold spl
  rw [show (stepA j l).take (j + 1) = l.take (j + 1) from (step_parts (l := l) (j := j) (by rw [acc_len]; simp)).1, List.take_append_drop]
theorem getDi {l : List Int} {i : Nat} (h : i < l.length) : l[i]? = some (l.getD i 0) := by rw [List.getD_eq_getElem?_getD, List.getElem?_eq_getElem h]; rfl
theorem getDn {l : List Nat} {i : Nat} (h : i < l.length) : l[i]? = some (l.getD i 0) := by rw [List.getD_eq_getElem?_getD, List.getElem?_eq_getElem h]; rfl
theorem ints_at {l : List Int} {i : Nat} {x : Int} (h : l[i]? = some x) : (ints l)[i]? = some (.int .i64 x) := by unfold ints; rw [List.getElem?_map, h]; rfl
theorem u64s_at {l : List Nat} {i : Nat} {x : Nat} (h : l[i]? = some x) : (u64s l)[i]? = some (.int .u64 (x : Int)) := by unfold u64s; rw [List.getElem?_map, h]; rfl
end Go.Ck

set_option linter.unusedVariables false
set_option maxRecDepth 10000
set_option maxHeartbeats 1000000
namespace Go.Ck
open Go.Proofs
attribute [go_sem] ints_set
theorem step_fn (n p : Int) : Fn Tryz.prog 121 [(1000, .cells 3 [.pv (.int .i64 p)])] [.pv (.int .i64 n), .ptr 1000 0] (fun rs H' => rs = [.pv (.int .i64 (IntKind.i64.wrap (n - p)))] ∧ H' = [(1000, .cells 3 [.pv (.int .i64 n)])]) := by
  refine Fn.of_body (fn := Tryz.f121) (n := 10) (res := [.tmp 3]) (by kernel_rfl) rfl rfl rfl rfl rfl (fun C => ?_)
  refine AW.go ?_
  refine AW.finE (.pv _ .nil) rfl
theorem between_fn (p : Int) : Fn Tryz.prog 88 [] [.pv (.int .i64 p)] (fun rs H' => rs = [.fn 121 [.ptr 3 0]] ∧ H' = [(3, .cells 3 [.pv (.int .i64 p)])]) := by
  refine Fn.of_body (fn := Tryz.f88) (n := 6) (res := [.tmp 2]) (by kernel_rfl) rfl rfl rfl rfl rfl (fun C => ?_)
  refine AW.go ?_
  refine AW.finE (.fn rfl .nil) rfl

theorem diff_fn (l : List Int) (k : Nat) (hk : k ≤ 3) (hl : l.length ≤ 2 ^ 40) : Fn Tryz.prog 62 [] [.pv (.sl 1 (ints l)), .pv (.int .i64 k)] (fun rs H' => rs = [.own 3 (ints (diffS l k)), .pv (.int .i64 0)] ∧ H' = []) := by
  refine Fn.of_body (fn := Tryz.f62) (n := 49) (res := [.tmp 4, .tmp 5]) (by kernel_rfl) rfl rfl rfl rfl rfl (fun C => ?_)
  have hr : room = 140737488355328 := rfl
  have d1 : decide ((k : Int) > 3) = false := decide_eq_false (by omega)
  refine AW.gg ?_ (by simp only [go_sem, ↓reduceIte, d1] <;> rfl)
  refine AW.condF rfl ?_
  refine AW.go ?_
  refine AW.callE (fun _ => 0) (clone_ints l hl) (.pv _ .nil) ?_
  have em : (if (l.length : Int) < (k : Int) then (l.length : Int) else (k : Int)) = ((min k l.length : Nat) : Int) := by split <;> omega
  have em2 : (if l.length < k then ((l.length : Nat) : Int) else (k : Int)) = ((min k l.length : Nat) : Int) := by split <;> omega
  refine AW.go ?_ (by simp only [go_sem, ↓reduceIte, em, em2] <;> rfl)
  rw [diffS_min]
  have hm : min k l.length ≤ l.length := by omega
  generalize min k l.length = q at *
  refine AW.loopS (fun j : Nat => ⟨49, [(22, .pv (.int .i64 j)), (21, .pv (.int .i64 q)), (6, .own 3 (ints (diffS l j)))], []⟩) (fun j => j ≤ q) (fun j => q - j) [22, 21, 6] [] 0 (Nat.zero_le _) ?_
  rintro j hj K hK
  refine AW.go ?_
  refine AW.cond rfl (fun hc => ?_) (fun hc => ?_)
  · have hlt : j < q := by simpa using hc
    have hM := diffS_len l j
    have hsu : diffS l (j + 1) = stepD j (diffS l j) := rfl
    generalize diffS l j = M at *
    have hD := stepD_len j M
    have hjM : j < M.length := by omega
    have hget := ints_at (getDi hjM)
    have ej : IntKind.i64.wrap ((j : Int) + 1) = ((j + 1 : Nat) : Int) := wrap_i64_succ (by omega)
    refine AW.go ?_ (by simp only [go_sem, ↓reduceIte, hjM, hget] <;> rfl)
    refine AW.callE (fun _ => 29) (between_fn (M.getD j 0)) (.pv _ .nil) ?_
    refine AW.go ?_ (by simp only [go_sem, ↓reduceIte, ej] <;> rfl)
    have h0 : spl (stepD j M) M (j + 1) = M := stepD_spl j M
    refine AW.loopS (fun i : Nat => ⟨49, [(9, .pv (.int .i64 i)), (8, .fn 121 [.ptr 29 0]), (22, .pv (.int .i64 j)), (21, .pv (.int .i64 q)), (6, .own 3 (ints (spl (stepD j M) M i)))], [(29, .cells 3 [.pv (.int .i64 (M.getD (i - 1) 0))])]⟩) (fun i => j + 1 ≤ i ∧ i ≤ M.length) (fun i => M.length - i) [9, 8, 22, 21, 6] [29] (j + 1) ⟨Nat.le_refl _, by omega⟩ ?_ (by simp only [go_sem, ↓reduceIte]) (by simp only [go_sem, ↓reduceIte, h0, Nat.add_sub_cancel] <;> rfl)
    rintro i ⟨hi, hi2⟩ K2 hK2
    have hspl := spl_len hD i
    refine AW.go ?_ (by simp only [go_sem, ↓reduceIte, hspl] <;> rfl)
    refine AW.cond rfl (fun hc => ?_) (fun hc => ?_)
    · have hlt2 : i < M.length := by simpa using hc
      have hg2 : (ints (spl (stepD j M) M i))[i]? = some (.int .i64 (M.getD i 0)) := ints_at (by rw [spl_get hD hlt2]; exact getDi hlt2)
      have hset := spl_set hD hlt2 (stepD_get (by omega) hlt2)
      have ei : IntKind.i64.wrap ((i : Int) + 1) = ((i + 1 : Nat) : Int) := wrap_i64_succ (by omega)
      refine AW.go ?_ (by simp only [go_sem, ↓reduceIte, hspl, hlt2, hg2] <;> rfl)
      refine AW.callE (fun _ => 29) (step_fn (M.getD i 0) (M.getD (i - 1) 0)) (.pv _ (.ptr rfl .nil)) ?_
      refine AW.go ?_ (by simp only [go_sem, ↓reduceIte, hspl, hlt2, hg2, hset, ei] <;> rfl)
      refine AW.again hK2 (i + 1) ⟨by omega, hlt2⟩ (by omega) (by simp only [go_sem, ↓reduceIte]) (by simp only [go_sem, ↓reduceIte, Nat.add_sub_cancel] <;> rfl)
    · have hge : M.length ≤ i := by simp at hc; omega
      rw [spl_all hD hge, ← hsu]
      refine AW.go ?_ (by simp only [go_sem, ↓reduceIte, ej] <;> rfl)
      refine AW.again hK (j + 1) hlt (by omega)
  · have hge : j = q := by simp at hc; omega
    subst hge
    refine AW.go ?_
    refine AW.finE (.move rfl (.pv _ .nil)) rfl

theorem sum_fn (l : List Int) (k : Nat) (hk : k ≤ 3) (hl : l.length ≤ 2 ^ 40) : Fn Tryz.prog 54 [] [.pv (.sl 1 (ints l)), .pv (.int .i64 k)] (fun rs H' => rs = [.own 3 (ints (sumS l k)), .pv (.int .i64 0)] ∧ H' = []) := by
  refine Fn.of_body (fn := Tryz.f54) (n := 46) (res := [.tmp 4, .tmp 5]) (by kernel_rfl) rfl rfl rfl rfl rfl (fun C => ?_)
  have hr : room = 140737488355328 := rfl
  have d1 : decide ((k : Int) > 3) = false := decide_eq_false (by omega)
  refine AW.gg ?_ (by simp only [go_sem, ↓reduceIte, d1] <;> rfl)
  refine AW.condF rfl ?_
  refine AW.go ?_
  refine AW.callE (fun _ => 0) (clone_ints l hl) (.pv _ .nil) ?_
  have em : (if (l.length : Int) < (k : Int) then (l.length : Int) else (k : Int)) = ((min k l.length : Nat) : Int) := by split <;> omega
  have em2 : (if l.length < k then ((l.length : Nat) : Int) else (k : Int)) = ((min k l.length : Nat) : Int) := by split <;> omega
  have em3 : IntKind.i64.wrap (((min k l.length : Nat) : Int) - 1) = ((min k l.length : Nat) : Int) - 1 := wrap_i64_of (by omega) (by omega)
  refine AW.go ?_ (by simp only [go_sem, ↓reduceIte, em, em2, em3] <;> rfl)
  rw [sumS_min]
  have hm : min k l.length ≤ l.length := by omega
  generalize min k l.length = q at *
  refine AW.loopS (fun a : Nat × List Int => ⟨46, [(7, .pv (.int .i64 ((a.1 : Int) - 1))), (6, .own 3 (ints a.2))], []⟩) (fun a => a.1 ≤ q ∧ a.2.length = l.length ∧ sumS a.2 a.1 = sumS l q) (fun a => a.1) [7, 6] [] (q, l) ⟨Nat.le_refl _, rfl, rfl⟩ ?_
  rintro ⟨j, M⟩ ⟨hj, hM, hs⟩ K hK
  simp only at hj hM hs
  refine AW.go ?_
  refine AW.cond rfl (fun hc => ?_) (fun hc => ?_)
  · obtain ⟨j, rfl⟩ : ∃ i, j = i + 1 := ⟨j - 1, by simp at hc; omega⟩
    rw [sumS] at hs
    have hD := stepA_len j M
    have ej0 : (((j + 1 : Nat) : Int) - 1) = (j : Int) := by omega
    have ej : IntKind.i64.wrap ((j : Int) + 1) = ((j + 1 : Nat) : Int) := wrap_i64_succ (by omega)
    have ej1 : IntKind.i64.wrap ((j : Int) - 1) = (j : Int) - 1 := wrap_i64_of (by omega) (by omega)
    have h0 : spl (stepA j M) M (j + 1) = M := stepA_spl j M
    refine AW.go ?_ (by simp only [go_sem, ↓reduceIte, ej0, ej] <;> rfl)
    refine AW.loopS (fun i : Nat => ⟨46, [(8, .pv (.int .i64 i)), (7, .pv (.int .i64 j)), (6, .own 3 (ints (spl (stepA j M) M i)))], []⟩) (fun i => j + 1 ≤ i ∧ i ≤ M.length) (fun i => M.length - i) [8, 7, 6] [] (j + 1) ⟨Nat.le_refl _, by omega⟩ ?_ (by simp only [go_sem, ↓reduceIte]) (by simp only [go_sem, ↓reduceIte, h0, ej0] <;> rfl)
    rintro i ⟨hi, hi2⟩ K2 hK2
    have hspl := spl_len hD i
    refine AW.go ?_ (by simp only [go_sem, ↓reduceIte, hspl] <;> rfl)
    refine AW.cond rfl (fun hc => ?_) (fun hc => ?_)
    · have hlt2 : i < M.length := by simpa using hc
      have hg2 : (ints (spl (stepA j M) M i))[i]? = some (.int .i64 (M.getD i 0)) := ints_at (by rw [spl_get hD hlt2]; exact getDi hlt2)
      have hg3 : (ints (spl (stepA j M) M i))[i - 1]? = some (.int .i64 ((stepA j M).getD (i - 1) 0)) := ints_at (by rw [spl_get1 hD (by omega) (by omega)]; exact getDi (by omega))
      have hset := spl_set hD hlt2 (stepA_get (by omega) hlt2)
      have ei1 : IntKind.i64.wrap ((i : Int) - 1) = ((i - 1 : Nat) : Int) := by rw [wrap_i64_of (by omega) (by omega)]; omega
      have hlt3 : i - 1 < M.length := by omega
      have ei : IntKind.i64.wrap ((i : Int) + 1) = ((i + 1 : Nat) : Int) := wrap_i64_succ (by omega)
      refine AW.go ?_
      refine AW.srTail 11 mixed (by decide +kernel) ?_ (by simp only [go_sem, ↓reduceIte, hspl, hlt2, hlt3, hg2, hg3, ei1] <;> rfl)
      refine AW.go ?_ (by simp only [go_sem, ↓reduceIte, hspl, hlt2, hg2, hset, ei] <;> rfl)
      refine AW.again hK2 (i + 1) ⟨by omega, hlt2⟩ (by omega)
    · have hge : M.length ≤ i := by simp at hc; omega
      rw [spl_all hD hge]
      refine AW.go ?_ (by simp only [go_sem, ↓reduceIte, ej1] <;> rfl)
      refine AW.again hK (j, stepA j M) ⟨by simp only; omega, by simp only; omega, hs⟩ (by simp only; omega)
  · have hge : j = 0 := by simp at hc; omega
    subst hge
    rw [← hs, sumS]
    refine AW.go ?_
    refine AW.finE (.move rfl (.pv _ .nil)) rfl

theorem refDiff_fn (l : List Int) (hl : l.length ≤ 2 ^ 40) : ∀ (k : Nat) (hk : k ≤ 3), Fn Tryz.prog 69 [] [.pv (.sl 1 (ints l)), .pv (.int .i64 k)] (fun rs H' => rs = [.own 3 (ints (diffS l k)), .pv (.int .i64 0)] ∧ H' = [])
  | 0, hk => by
    refine Fn.of_body (fn := Tryz.f69) (n := 58) (res := [.tmp 4, .tmp 5]) (by kernel_rfl) rfl rfl rfl rfl rfl (fun C => ?_)
    have hr : room = 140737488355328 := rfl
    have h2 : l.length * 8 ≤ room := by omega
    have h3 : l.length ≤ room := by omega
    refine AW.gg ?_
    refine AW.condF rfl ?_
    refine AW.go ?_
    refine AW.condT rfl ?_
    refine AW.go ?_ (by simp only [go_sem, ↓reduceIte, h2, h3] <;> rfl)
    refine AW.finE (.move rfl (.pv _ .nil)) rfl
  | k + 1, hk => by
    refine Fn.of_body (fn := Tryz.f69) (n := 58) (res := [.tmp 4, .tmp 5]) (by kernel_rfl) rfl rfl rfl rfl rfl (fun C => ?_)
    have hr : room = 140737488355328 := rfl
    have d1 : decide (((k + 1 : Nat) : Int) > 3) = false := decide_eq_false (by omega)
    have d2 : (((k + 1 : Nat) : Int) == 0) = false := by simp; omega
    have ek : IntKind.i64.wrap (((k + 1 : Nat) : Int) - 1) = (k : Int) := by rw [wrap_i64_of (by omega) (by omega)]; omega
    refine AW.gg ?_ (by simp only [go_sem, ↓reduceIte, d1] <;> rfl)
    refine AW.condF rfl ?_
    refine AW.go ?_ (by simp only [go_sem, ↓reduceIte, d2] <;> rfl)
    refine AW.condF rfl ?_
    refine AW.go ?_ (by simp only [go_sem, ↓reduceIte, ek] <;> rfl)
    refine AW.callE (fun _ => 0) (refDiff_fn l hl k (by omega)) (.pv _ (.pv _ .nil)) ?_
    have hM := diffS_len l k
    rw [diffS]
    generalize diffS l k = M at *
    have hD := stepD_len k M
    refine AW.go ?_
    refine AW.loopS (fun i : Nat => ⟨58, [(9, .pv (.int .i64 i)), (6, .own 3 (ints M)), (8, .own 3 (ints ((stepD k M).take i))), (1, .pv (.int .i64 (k + 1 : Nat)))], []⟩) (fun i => i ≤ M.length) (fun i => M.length - i) [9, 6, 8, 1] [] 0 (Nat.zero_le _) ?_
    rintro i hi K hK
    have htl : ((stepD k M).take i).length = i := by simp; omega
    refine AW.go ?_
    refine AW.cond rfl (fun hc => ?_) (fun hc => ?_)
    · have hlt : i < M.length := by simpa using hc
      have hget := ints_at (getDi hlt)
      have h1 : (i + 1) * 8 ≤ room := by omega
      have h2 : i + 1 ≤ room := by omega
      have ei : IntKind.i64.wrap ((i : Int) + 1) = ((i + 1 : Nat) : Int) := wrap_i64_succ (by omega)
      refine AW.go ?_
      refine AW.cond rfl (fun hc2 => ?_) (fun hc2 => ?_)
      · have hik : i ≤ k := by simp at hc2; omega
        have hap : (stepD k M).take i ++ [M.getD i 0] = (stepD k M).take (i + 1) := by rw [List.take_add_one, stepD_head hik hlt, getDi hlt]; rfl
        refine AW.go ?_ (by simp only [go_sem, ↓reduceIte, hlt, hget, htl, ints_one, h1, h2, hap, ei] <;> rfl)
        refine AW.again hK (i + 1) hlt (by omega)
      · have hik : k < i := by simp at hc2; omega
        have hget1 := ints_at (getDi (show i - 1 < M.length by omega))
        have hlt1 : i - 1 < M.length := by omega
        have ei1 : IntKind.i64.wrap ((i : Int) - 1) = ((i - 1 : Nat) : Int) := by rw [wrap_i64_of (by omega) (by omega)]; omega
        have hap : (stepD k M).take i ++ [IntKind.i64.wrap (M.getD i 0 - M.getD (i - 1) 0)] = (stepD k M).take (i + 1) := by rw [List.take_add_one, stepD_get hik hlt]; rfl
        refine AW.go ?_
        refine AW.any0 mixed ?_
        refine AW.takes (fuel := 6) [0, 1, 2, 5, 6, 3, 7, 8] ?_ (by simp only [go_sem, ↓reduceIte, hlt, hlt1, ei1] <;> rfl) Ends.noPanic (listed' := #[true, true, true, true, false, true, true, true, true, false, false, false, false, false]) (by decide +kernel) (by decide +kernel)
        refine AW.branch (fuel := 5) (rs := [4, 9]) ?_ (by decide +kernel) (by simp)
        intro y hy
        simp only [List.mem_cons, List.not_mem_nil, or_false] at hy
        rcases hy with rfl | rfl
        · refine AW.go ?_ (by simp only [go_sem, ↓reduceIte, hget, hget1] <;> rfl)
          refine AW.seqs (fuel := 0) (listed' := #[true, true, true, true, true, true, true, true, true, true, true, true, true, true]) [9, 10, 11, 12, 13] ?_ (by decide +kernel)
          refine AW.go ?_ (by simp only [go_sem, ↓reduceIte, hget, hget1, htl, ints_one, h1, h2, hap, ei] <;> rfl)
          refine AW.anyDone (by decide +kernel) ?_
          refine AW.go ?_ (by simp only [go_sem, ↓reduceIte, ei] <;> rfl)
          refine AW.again hK (i + 1) hlt (by omega)
        · refine AW.go ?_ (by simp only [go_sem, ↓reduceIte, hget, hget1] <;> rfl)
          refine AW.seqs (fuel := 0) (listed' := #[true, true, true, true, true, true, true, true, true, true, true, true, true, true]) [4, 10, 11, 12, 13] ?_ (by decide +kernel)
          refine AW.go ?_ (by simp only [go_sem, ↓reduceIte, hget, hget1, htl, ints_one, h1, h2, hap, ei] <;> rfl)
          refine AW.anyDone (by decide +kernel) ?_
          refine AW.go ?_ (by simp only [go_sem, ↓reduceIte, ei] <;> rfl)
          refine AW.again hK (i + 1) hlt (by omega)
    · have hge : i = M.length := by simp at hc; omega
      have hall : (stepD k M).take i = stepD k M := List.take_of_length_le (by omega)
      rw [hall]
      refine AW.go ?_
      refine AW.finE (.move rfl (.pv _ .nil)) rfl

theorem refSum_fn (l : List Int) (k : Nat) (hk : k ≤ 3) (hl : l.length ≤ 2 ^ 40) : Fn Tryz.prog 60 [] [.pv (.sl 1 (ints l)), .pv (.int .i64 k)] (fun rs H' => rs = [.own 3 (ints (sumS l k)), .pv (.int .i64 0)] ∧ H' = []) := by
  refine Fn.of_body (fn := Tryz.f60) (n := 44) (res := [.tmp 4, .tmp 5]) (by kernel_rfl) rfl rfl rfl rfl rfl (fun C => ?_)
  have hr : room = 140737488355328 := rfl
  have d1 : decide ((k : Int) > 3) = false := decide_eq_false (by omega)
  have h2 : l.length * 8 ≤ room := by omega
  have h3 : l.length ≤ room := by omega
  refine AW.gg ?_ (by simp only [go_sem, ↓reduceIte, d1] <;> rfl)
  refine AW.condF rfl ?_
  refine AW.go ?_ (by simp only [go_sem, ↓reduceIte, h2, h3] <;> rfl)
  refine AW.loopS (fun a : Nat × List Int => ⟨44, [(7, .pv (.int .i64 a.1)), (6, .own 3 (ints a.2))], []⟩) (fun a => a.1 ≤ k ∧ a.2.length = l.length ∧ sumS a.2 a.1 = sumS l k) (fun a => a.1) [7, 6] [] (k, l) ⟨Nat.le_refl _, rfl, rfl⟩ ?_
  rintro ⟨j, M⟩ ⟨hj, hM, hs⟩ K hK
  simp only at hj hM hs
  refine AW.go ?_
  refine AW.cond rfl (fun hc => ?_) (fun hc => ?_)
  · obtain ⟨j, rfl⟩ : ∃ i, j = i + 1 := ⟨j - 1, by simp at hc; omega⟩
    rw [sumS] at hs
    have hD := stepA_len j M
    have ej1 : IntKind.i64.wrap (((j + 1 : Nat) : Int) - 1) = (j : Int) := by rw [wrap_i64_of (by omega) (by omega)]; omega
    by_cases hjl : j + 1 ≤ M.length
    · have h0 : spl (stepA j M) M (j + 1) = M := stepA_spl j M
      refine AW.go ?_
      refine AW.loopS (fun i : Nat => ⟨44, [(8, .pv (.int .i64 i)), (7, .pv (.int .i64 (j + 1 : Nat))), (6, .own 3 (ints (spl (stepA j M) M i)))], []⟩) (fun i => j + 1 ≤ i ∧ i ≤ M.length) (fun i => M.length - i) [8, 7, 6] [] (j + 1) ⟨Nat.le_refl _, by omega⟩ ?_ (by simp only [go_sem, ↓reduceIte]) (by simp only [go_sem, ↓reduceIte, h0] <;> rfl)
      rintro i ⟨hi, hi2⟩ K2 hK2
      have hspl := spl_len hD i
      refine AW.go ?_ (by simp only [go_sem, ↓reduceIte, hspl] <;> rfl)
      refine AW.cond rfl (fun hc => ?_) (fun hc => ?_)
      · have hlt2 : i < M.length := by simpa using hc
        have hg2 : (ints (spl (stepA j M) M i))[i]? = some (.int .i64 (M.getD i 0)) := ints_at (by rw [spl_get hD hlt2]; exact getDi hlt2)
        have hg3 : (ints (spl (stepA j M) M i))[i - 1]? = some (.int .i64 ((stepA j M).getD (i - 1) 0)) := ints_at (by rw [spl_get1 hD (by omega) (by omega)]; exact getDi (by omega))
        have hset := spl_set hD hlt2 (stepA_get (by omega) hlt2)
        have ei1 : IntKind.i64.wrap ((i : Int) - 1) = ((i - 1 : Nat) : Int) := by rw [wrap_i64_of (by omega) (by omega)]; omega
        have hlt3 : i - 1 < M.length := by omega
        have ei : IntKind.i64.wrap ((i : Int) + 1) = ((i + 1 : Nat) : Int) := wrap_i64_succ (by omega)
        refine AW.go ?_
        refine AW.srTail 13 mixed (by decide +kernel) ?_ (by simp only [go_sem, ↓reduceIte, hspl, hlt2, hlt3, hg2, hg3, ei1] <;> rfl)
        refine AW.go ?_ (by simp only [go_sem, ↓reduceIte, hspl, hlt2, hg2, hset, ei] <;> rfl)
        refine AW.again hK2 (i + 1) ⟨by omega, hlt2⟩ (by omega)
      · have hge : M.length ≤ i := by simp at hc; omega
        rw [spl_all hD hge]
        refine AW.go ?_ (by simp only [go_sem, ↓reduceIte, ej1] <;> rfl)
        refine AW.again hK (j, stepA j M) ⟨by simp only; omega, by simp only; omega, hs⟩ (by simp only; omega)
    · rw [stepA_big (by omega)] at hs
      refine AW.go ?_
      refine AW.loopS (fun _ : Unit => ⟨44, [(8, .pv (.int .i64 (j + 1 : Nat))), (7, .pv (.int .i64 (j + 1 : Nat))), (6, .own 3 (ints M))], []⟩) (fun _ => True) (fun _ => 0) [8, 7, 6] [] () trivial ?_
      rintro _ - K2 hK2
      refine AW.go ?_
      refine AW.cond rfl (fun hc => ?_) (fun hc => ?_)
      · exact absurd hc (by simp; omega)
      · refine AW.go ?_ (by simp only [go_sem, ↓reduceIte, ej1] <;> rfl)
        refine AW.again hK (j, M) ⟨by simp only; omega, hM, hs⟩ (by simp only; omega)
  · have hge : j = 0 := by simp at hc; omega
    subst hge
    rw [← hs, sumS]
    refine AW.go ?_
    refine AW.finE (.move rfl (.pv _ .nil)) rfl
end Go.Ck

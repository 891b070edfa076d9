/- What the law WalBack reaches besides, and its walk. -/
import Derived.Test.YtebefonohemlfaaMgA
import Derived.Test.YtebefonohemlfaaMgB
set_option linter.unusedVariables false
set_option linter.unusedSimpArgs false
section
/- Arguments opened: a batch; batches. -/
namespace Go.Proofs.Ytebefonohemlfaa
open Go.ChangeShapes Go.WideShapes Go.ChangeAt Go.RowKit Go.Proofs.YtebefonohemlfaaW.PrintWords
set_option maxRecDepth 100000
set_option linter.unusedVariables false
set_option maxRecDepth 100000 in
theorem open_bat {H : Type} {enc : TypeId × Value → H} {W : World} {base : Nat} {v : Value} {x : DataW H} {p : List MemPlace} (hv : Value.okWide Try.prog W .any base 24 v)
    (h : DataW.Trod enc Try.prog W 0 (fun _ => true) true 24 v x p) : ∃ q A c l, v = .agg #[.int .i64 q, .slice A l.length c] ∧ RdC W A c l ∧ (∀ B, (∀ y ∈ x.weights Try.prog 24, y ≤ B) → (Lit.int .i64 q).wf = true ∧ l.length * 40 ≤ B) ∧ l.length ≤ Rows.uptoBulk x := by
  have o1 := opens_struct Try.underlying35 (d := kChg) (by kernel_rfl) (opensF_cons rfl (by kernel_rfl) (opens_string Try.underlying9) (opensF_cons rfl (by kernel_rfl) (opens_bool Try.underlying4) (opensF_one rfl (by kernel_rfl) (opens_string Try.underlying9))))
  have o2 := opens_slice (t := 22) Try.underlying22 (by kernel_rfl) o1
  have o3 := opens_struct Try.underlying24 (d := kBat) (by kernel_rfl) (opensF_cons rfl (by kernel_rfl) (opens_int Try.underlying3) (opensF_one rfl (by kernel_rfl) o2))
  obtain ⟨⟨q, l⟩, cs, hv, hk, hS, hU⟩ := open_struct_of Try.underlying24 o3 hv h
  obtain ⟨A, c, hcs, hr⟩ := kBat_K hk
  refine ⟨q, A, c, l, ?_, hr, fun B hB => ?_, ?_⟩
  · rw [hv]
    congr 1
    apply Array.ext'
    exact hcs
  · obtain ⟨h1, h2, h3⟩ := hS B hB
    have e : Try.prog.bytesOf 35 = 40 := by kernel_rfl
    rw [e] at h2
    exact ⟨h1, h2⟩
  · have h1 : ∀ m : List Chg, m.length ≤ (m.map fun a : Chg => a.1.size + 1 + (1 + (a.2.2.size + 1)) + 1).sum := by
      intro m
      induction m with
      | nil => simp
      | cons y r ih => simp only [List.length_cons, List.map_cons, List.sum_cons]; omega
    have h2 := h1 l
    simp only at hU
    omega
end Go.Proofs.Ytebefonohemlfaa
end

section
/- The walk of WalBack. -/
namespace Go.Proofs.Ytebefonohemlfaa
open Go.RowKit Go.Proofs.YtebefonohemlfaaW.PrintWords
set_option linter.unusedVariables false

theorem decL_le (x : List UInt8) : (decL x).length ≤ 64 := by
  unfold decL
  split
  · cases h : rdBatch x with
    | error e => simp
    | ok p => exact (rdBatch_ok x p.1 p.2 h).2
  · simp
set_option maxRecDepth 100000 in
set_option maxHeartbeats 1600000 in
theorem back_11 (q : Int) (A : Option Addr) (c : Nat) (l : List Chg) (D : Option Addr) (d : Nat) (x : List UInt8) (w : World) (hr : RdC w A c l) (hl : l.length * 40 ≤ 140737488351232) (hb : RdB w D d x) (hxl : x.length ≤ 140737488351232) (hz : chkB q l = 0) (hy : decE x = 0) :
    Calls Try.prog 5 #[.agg #[.int .i64 q, .slice A l.length c], .slice D x.length d] w fun e w' => e = .returned (.bool true) ∧ Below w.heap.size w w' := by
  have hm := hr.max
  have hOf := fun W (h : RdC W A c l) => of_any q A c l.length l W rfl h hl
  have hEn := fun A c W (h : RdC W A c l) => Encode_any q A c l.length l W rfl h (by omega)
  have hDx := fun W (h : RdB W D d x) => Decode_any D d x.length x W rfl h
  obtain ⟨n, hn⟩ : ∃ n, l.length = n := ⟨_, rfl⟩
  obtain ⟨m, hmm⟩ : ∃ m, x.length = m := ⟨_, rfl⟩
  have X0 := Bx.new w q (.slice A l.length c) 24
  have B0 := below_alloc w (.cells #[.int .i64 q, .slice A l.length c] 24)
  have hr0 := hr.below B0
  have hb0 := hb.below B0
  have hSm := fun A B c d W (h : RdC W A c l) (h' : RdC W B d l) => same_any q A B c d l.length l W rfl h h' (by omega)
  obtain ⟨d1, d2, d3⟩ := dec_enc q l hz
  have hDe := fun A c W (h : RdB W A c (encX q l)) => Decode_any A c (encX q l).length (encX q l) W rfl h
  rw [show encX q l = encB q l by rw [encX, if_pos hz]] at hEn hDe
  rw [d1, d2, d3] at hDe
  rw [hz] at hEn
  rw [hn] at hSm hDe
  generalize encB q l = E at *
  clear d1 d2 d3
  obtain ⟨k1, k2⟩ := dec_ok x hy
  have hEx := fun A c W (h : RdC W A c (decL x)) => Encode_any (decQ x) A c (decL x).length (decL x) W rfl h (by have := decL_le x; omega)
  rw [k1, show encX (decQ x) (decL x) = x by rw [encX, if_pos k1, k2]] at hEx
  have hSx := fun A B c d W (h : RdB W A c x) (h' : RdB W B d x) => SameBytes_at A B c d _ _ x x W rfl rfl h h'
  simp only [decide_true] at hSx
  rw [hmm] at hSx
  rw [hy] at hDx
  generalize decQ x = q2 at *
  generalize decL x = l2 at *
  obtain ⟨n2, hn2⟩ : ∃ n2, l2.length = n2 := ⟨_, rfl⟩
  rw [hn2] at hDx hEx
  clear k1 k2
  rw [hn] at hOf hEn X0 B0 hr0 hb0 ⊢
  rw [hmm] at hDx ⊢
  have HN := hide hn
  have HM := hide hmm
  clear hn hmm hl hxl hm
  obtain ⟨p0, p1, p2, p3⟩ := X0.read
  go_enter Try.func5, Try.ntmps5
  go_wp2_with (first | (go_at_call 9; refine (alive_any _).mono ?_; rintro e w1 ⟨rfl, HB1⟩; have X1 := X0.below HB1; have B1 := B0.trans (HB1.mono B0.size); have hr1 := hr0.below HB1; have hb1 := hb0.below HB1; obtain ⟨s0, s1, s2, s3⟩ := X1.read) | (go_at_call 11; (with_reducible refine (hOf _ hr1).mono ?_); rintro e w2 ⟨A2, c2, rfl, HO2, HB2⟩; have hr2 := HO2.rdl; have X2 := X1.below HB2; have B2 := B1.trans (HB2.mono B1.size); have hr12 := hr1.below HB2; have hb2 := hb1.below HB2) | (go_at_call 19; (with_reducible refine (hEx _ _ _ HO6').mono ?_); rintro e w7 ⟨v7, rfl, HO7, HB7⟩; have B7 := B6'.trans (HB7.mono B6'.size); have hb7 := hb6'.below HB7; obtain ⟨A7, c7, hv7, hE7⟩ := HO7.rd; rw [HM.out] at hv7; subst hv7) | (go_at_call 19; (with_reducible refine (hEn _ _ _ hr2).mono ?_); rintro e w3 ⟨v3, rfl, HO3, HB3⟩; have X3 := X2.below HB3; have B3 := B2.trans (HB3.mono B2.size); have hr3 := hr12.below HB3; have hb3 := hb2.below HB3; obtain ⟨A3, c3, rfl, hE3⟩ := HO3.rd; obtain ⟨t0, t1, t2, t3⟩ := X3.read; have hlt3 := X3.lt; have hne3 : ¬ w.heap.size = w3.heap.size := (by omega)) | (go_at_call 12; refine (num_any _ _).mono ?_; rintro e w' ⟨rfl, rfl⟩) | (go_at_call 20; (with_reducible refine (hDe _ _ _ hE3).mono ?_); rintro e w4 ⟨⟨A4, c4, rfl, HO4⟩, HB4⟩; have X4 := X3.below HB4; have B4 := B3.trans (HB4.mono B3.size); have hr4 := hr3.below HB4; have hb4 := hb3.below HB4; have Y4 := Bx.new w4 q (.slice A4 n c4) 30; have C4 := below_alloc w4 (.cells #[.int .i64 q, .slice A4 n c4] 30); have X4' := X4.below C4; have hr4' := hr4.below C4; have hb4' := hb4.below C4; have HO4' := HO4.rdl.below C4; have B4' := B4.trans (C4.mono B4.size); obtain ⟨u0, u1, u2, u3⟩ := Y4.read; obtain ⟨o0, o1, o2, o3⟩ := X4'.read; have hlt4 := X4.lt; have hne4 : ¬ w.heap.size = w4.heap.size := (by omega)) | (go_at_call 21; (with_reducible refine (hSm _ _ _ _ _ HO4' hr4').mono ?_); rintro e w5 ⟨rfl, HB5⟩; have B5 := B4'.trans (HB5.mono B4'.size); have hb5 := hb4'.below HB5) | (go_at_call 20; (with_reducible refine (hDx _ hb5).mono ?_); rintro e w6 ⟨⟨A6, c6, rfl, HO6⟩, HB6⟩; have B6 := B5.trans (HB6.mono B5.size); have hb6 := hb5.below HB6; have Y6 := Bx.new w6 q2 (.slice A6 n2 c6) 30; have C6 := below_alloc w6 (.cells #[.int .i64 q2, .slice A6 n2 c6] 30); have hb6' := hb6.below C6; have HO6' := HO6.rdl.below C6; have B6' := B6.trans (C6.mono B6.size); obtain ⟨a0, a1, a2, a3⟩ := Y6.read) | (go_at_call 18; (with_reducible refine (hSx _ _ _ _ _ hE7 hb7).mono ?_); rintro e w' ⟨rfl, rfl⟩))
  go_ret
  exact ⟨by simp, B7⟩
set_option maxRecDepth 100000 in
set_option maxHeartbeats 1600000 in
theorem back_10 (q : Int) (A : Option Addr) (c : Nat) (l : List Chg) (D : Option Addr) (d : Nat) (x : List UInt8) (w : World) (hr : RdC w A c l) (hl : l.length * 40 ≤ 140737488351232) (hb : RdB w D d x) (hxl : x.length ≤ 140737488351232) (hz : chkB q l = 0) (hy : ¬ decE x = 0) :
    Calls Try.prog 5 #[.agg #[.int .i64 q, .slice A l.length c], .slice D x.length d] w fun e w' => e = .returned (.bool true) ∧ Below w.heap.size w w' := by
  have hm := hr.max
  have hOf := fun W (h : RdC W A c l) => of_any q A c l.length l W rfl h hl
  have hEn := fun A c W (h : RdC W A c l) => Encode_any q A c l.length l W rfl h (by omega)
  have hDx := fun W (h : RdB W D d x) => Decode_any D d x.length x W rfl h
  obtain ⟨n, hn⟩ : ∃ n, l.length = n := ⟨_, rfl⟩
  obtain ⟨m, hmm⟩ : ∃ m, x.length = m := ⟨_, rfl⟩
  have X0 := Bx.new w q (.slice A l.length c) 24
  have B0 := below_alloc w (.cells #[.int .i64 q, .slice A l.length c] 24)
  have hr0 := hr.below B0
  have hb0 := hb.below B0
  have hSm := fun A B c d W (h : RdC W A c l) (h' : RdC W B d l) => same_any q A B c d l.length l W rfl h h' (by omega)
  obtain ⟨d1, d2, d3⟩ := dec_enc q l hz
  have hDe := fun A c W (h : RdB W A c (encX q l)) => Decode_any A c (encX q l).length (encX q l) W rfl h
  rw [show encX q l = encB q l by rw [encX, if_pos hz]] at hEn hDe
  rw [d1, d2, d3] at hDe
  rw [hz] at hEn
  rw [hn] at hSm hDe
  generalize encB q l = E at *
  clear d1 d2 d3
  have y1 : decQ x = 0 := by rw [decQ, if_neg hy]
  have y2 : decL x = [] := by rw [decL, if_neg hy]
  rw [y1, y2] at hDx
  generalize decE x = zx at *
  simp only [List.length_nil] at hDx
  rw [hn] at hOf hEn X0 B0 hr0 hb0 ⊢
  rw [hmm] at hDx ⊢
  have HN := hide hn
  have HM := hide hmm
  clear hn hmm hl hxl hm
  obtain ⟨p0, p1, p2, p3⟩ := X0.read
  go_enter Try.func5, Try.ntmps5
  go_wp2_with (first | (go_at_call 9; refine (alive_any _).mono ?_; rintro e w1 ⟨rfl, HB1⟩; have X1 := X0.below HB1; have B1 := B0.trans (HB1.mono B0.size); have hr1 := hr0.below HB1; have hb1 := hb0.below HB1; obtain ⟨s0, s1, s2, s3⟩ := X1.read) | (go_at_call 11; (with_reducible refine (hOf _ hr1).mono ?_); rintro e w2 ⟨A2, c2, rfl, HO2, HB2⟩; have hr2 := HO2.rdl; have X2 := X1.below HB2; have B2 := B1.trans (HB2.mono B1.size); have hr12 := hr1.below HB2; have hb2 := hb1.below HB2) | (go_at_call 19; (with_reducible refine (hEn _ _ _ hr2).mono ?_); rintro e w3 ⟨v3, rfl, HO3, HB3⟩; have X3 := X2.below HB3; have B3 := B2.trans (HB3.mono B2.size); have hr3 := hr12.below HB3; have hb3 := hb2.below HB3; obtain ⟨A3, c3, rfl, hE3⟩ := HO3.rd; obtain ⟨t0, t1, t2, t3⟩ := X3.read; have hlt3 := X3.lt; have hne3 : ¬ w.heap.size = w3.heap.size := (by omega)) | (go_at_call 12; refine (num_any _ _).mono ?_; rintro e w' ⟨rfl, rfl⟩) | (go_at_call 20; (with_reducible refine (hDe _ _ _ hE3).mono ?_); rintro e w4 ⟨⟨A4, c4, rfl, HO4⟩, HB4⟩; have X4 := X3.below HB4; have B4 := B3.trans (HB4.mono B3.size); have hr4 := hr3.below HB4; have hb4 := hb3.below HB4; have Y4 := Bx.new w4 q (.slice A4 n c4) 30; have C4 := below_alloc w4 (.cells #[.int .i64 q, .slice A4 n c4] 30); have X4' := X4.below C4; have hr4' := hr4.below C4; have hb4' := hb4.below C4; have HO4' := HO4.rdl.below C4; have B4' := B4.trans (C4.mono B4.size); obtain ⟨u0, u1, u2, u3⟩ := Y4.read; obtain ⟨o0, o1, o2, o3⟩ := X4'.read; have hlt4 := X4.lt; have hne4 : ¬ w.heap.size = w4.heap.size := (by omega)) | (go_at_call 21; (with_reducible refine (hSm _ _ _ _ _ HO4' hr4').mono ?_); rintro e w5 ⟨rfl, HB5⟩; have B5 := B4'.trans (HB5.mono B4'.size); have hb5 := hb4'.below HB5) | (go_at_call 20; (with_reducible refine (hDx _ hb5).mono ?_); rintro e w6 ⟨⟨A6, c6, rfl, HO6⟩, HB6⟩; have B6 := B5.trans (HB6.mono B5.size); have hb6 := hb5.below HB6; have Y6 := Bx.new w6 0 (.slice A6 0 c6) 30; have C6 := below_alloc w6 (.cells #[.int .i64 0, .slice A6 0 c6] 30); have hb6' := hb6.below C6; have HO6' := HO6.rdl.below C6; have B6' := B6.trans (C6.mono B6.size); obtain ⟨a0, a1, a2, a3⟩ := Y6.read))
  go_ret
  exact ⟨by simp, B6'⟩
set_option maxRecDepth 100000 in
set_option maxHeartbeats 1600000 in
theorem back_01 (q : Int) (A : Option Addr) (c : Nat) (l : List Chg) (D : Option Addr) (d : Nat) (x : List UInt8) (w : World) (hr : RdC w A c l) (hl : l.length * 40 ≤ 140737488351232) (hb : RdB w D d x) (hxl : x.length ≤ 140737488351232) (hz : ¬ chkB q l = 0) (hy : decE x = 0) :
    Calls Try.prog 5 #[.agg #[.int .i64 q, .slice A l.length c], .slice D x.length d] w fun e w' => e = .returned (.bool true) ∧ Below w.heap.size w w' := by
  have hm := hr.max
  have hOf := fun W (h : RdC W A c l) => of_any q A c l.length l W rfl h hl
  have hEn := fun A c W (h : RdC W A c l) => Encode_any q A c l.length l W rfl h (by omega)
  have hDx := fun W (h : RdB W D d x) => Decode_any D d x.length x W rfl h
  obtain ⟨n, hn⟩ : ∃ n, l.length = n := ⟨_, rfl⟩
  obtain ⟨m, hmm⟩ : ∃ m, x.length = m := ⟨_, rfl⟩
  have X0 := Bx.new w q (.slice A l.length c) 24
  have B0 := below_alloc w (.cells #[.int .i64 q, .slice A l.length c] 24)
  have hr0 := hr.below B0
  have hb0 := hb.below B0
  generalize encX q l = E at *
  generalize chkB q l = z at *
  obtain ⟨k1, k2⟩ := dec_ok x hy
  have hEx := fun A c W (h : RdC W A c (decL x)) => Encode_any (decQ x) A c (decL x).length (decL x) W rfl h (by have := decL_le x; omega)
  rw [k1, show encX (decQ x) (decL x) = x by rw [encX, if_pos k1, k2]] at hEx
  have hSx := fun A B c d W (h : RdB W A c x) (h' : RdB W B d x) => SameBytes_at A B c d _ _ x x W rfl rfl h h'
  simp only [decide_true] at hSx
  rw [hmm] at hSx
  rw [hy] at hDx
  generalize decQ x = q2 at *
  generalize decL x = l2 at *
  obtain ⟨n2, hn2⟩ : ∃ n2, l2.length = n2 := ⟨_, rfl⟩
  rw [hn2] at hDx hEx
  clear k1 k2
  rw [hn] at hOf hEn X0 B0 hr0 hb0 ⊢
  rw [hmm] at hDx ⊢
  have HN := hide hn
  have HM := hide hmm
  clear hn hmm hl hxl hm
  obtain ⟨p0, p1, p2, p3⟩ := X0.read
  go_enter Try.func5, Try.ntmps5
  go_wp2_with (first | (go_at_call 9; refine (alive_any _).mono ?_; rintro e w1 ⟨rfl, HB1⟩; have X1 := X0.below HB1; have B1 := B0.trans (HB1.mono B0.size); have hr1 := hr0.below HB1; have hb1 := hb0.below HB1; obtain ⟨s0, s1, s2, s3⟩ := X1.read) | (go_at_call 11; (with_reducible refine (hOf _ hr1).mono ?_); rintro e w2 ⟨A2, c2, rfl, HO2, HB2⟩; have hr2 := HO2.rdl; have X2 := X1.below HB2; have B2 := B1.trans (HB2.mono B1.size); have hr12 := hr1.below HB2; have hb2 := hb1.below HB2) | (go_at_call 19; (with_reducible refine (hEx _ _ _ HO6').mono ?_); rintro e w7 ⟨v7, rfl, HO7, HB7⟩; have B7 := B6'.trans (HB7.mono B6'.size); have hb7 := hb6'.below HB7; obtain ⟨A7, c7, hv7, hE7⟩ := HO7.rd; rw [HM.out] at hv7; subst hv7) | (go_at_call 19; (with_reducible refine (hEn _ _ _ hr2).mono ?_); rintro e w3 ⟨v3, rfl, HO3, HB3⟩; have X3 := X2.below HB3; have B3 := B2.trans (HB3.mono B2.size); have hr3 := hr12.below HB3; have hb3 := hb2.below HB3; obtain ⟨A3, c3, rfl, hE3⟩ := HO3.rd; obtain ⟨t0, t1, t2, t3⟩ := X3.read; have hlt3 := X3.lt; have hne3 : ¬ w.heap.size = w3.heap.size := (by omega)) | (go_at_call 12; refine (num_any _ _).mono ?_; rintro e w' ⟨rfl, rfl⟩) | (go_at_call 20; (with_reducible refine (hDx _ hb3).mono ?_); rintro e w6 ⟨⟨A6, c6, rfl, HO6⟩, HB6⟩; have B6 := B3.trans (HB6.mono B3.size); have hb6 := hb3.below HB6; have Y6 := Bx.new w6 q2 (.slice A6 n2 c6) 30; have C6 := below_alloc w6 (.cells #[.int .i64 q2, .slice A6 n2 c6] 30); have hb6' := hb6.below C6; have HO6' := HO6.rdl.below C6; have B6' := B6.trans (C6.mono B6.size); obtain ⟨a0, a1, a2, a3⟩ := Y6.read) | (go_at_call 18; (with_reducible refine (hSx _ _ _ _ _ hE7 hb7).mono ?_); rintro e w' ⟨rfl, rfl⟩))
  go_ret
  exact ⟨by simp, B7⟩
set_option maxRecDepth 100000 in
set_option maxHeartbeats 1600000 in
theorem back_00 (q : Int) (A : Option Addr) (c : Nat) (l : List Chg) (D : Option Addr) (d : Nat) (x : List UInt8) (w : World) (hr : RdC w A c l) (hl : l.length * 40 ≤ 140737488351232) (hb : RdB w D d x) (hxl : x.length ≤ 140737488351232) (hz : ¬ chkB q l = 0) (hy : ¬ decE x = 0) :
    Calls Try.prog 5 #[.agg #[.int .i64 q, .slice A l.length c], .slice D x.length d] w fun e w' => e = .returned (.bool true) ∧ Below w.heap.size w w' := by
  have hm := hr.max
  have hOf := fun W (h : RdC W A c l) => of_any q A c l.length l W rfl h hl
  have hEn := fun A c W (h : RdC W A c l) => Encode_any q A c l.length l W rfl h (by omega)
  have hDx := fun W (h : RdB W D d x) => Decode_any D d x.length x W rfl h
  obtain ⟨n, hn⟩ : ∃ n, l.length = n := ⟨_, rfl⟩
  obtain ⟨m, hmm⟩ : ∃ m, x.length = m := ⟨_, rfl⟩
  have X0 := Bx.new w q (.slice A l.length c) 24
  have B0 := below_alloc w (.cells #[.int .i64 q, .slice A l.length c] 24)
  have hr0 := hr.below B0
  have hb0 := hb.below B0
  generalize encX q l = E at *
  generalize chkB q l = z at *
  have y1 : decQ x = 0 := by rw [decQ, if_neg hy]
  have y2 : decL x = [] := by rw [decL, if_neg hy]
  rw [y1, y2] at hDx
  generalize decE x = zx at *
  simp only [List.length_nil] at hDx
  rw [hn] at hOf hEn X0 B0 hr0 hb0 ⊢
  rw [hmm] at hDx ⊢
  have HN := hide hn
  have HM := hide hmm
  clear hn hmm hl hxl hm
  obtain ⟨p0, p1, p2, p3⟩ := X0.read
  go_enter Try.func5, Try.ntmps5
  go_wp2_with (first | (go_at_call 9; refine (alive_any _).mono ?_; rintro e w1 ⟨rfl, HB1⟩; have X1 := X0.below HB1; have B1 := B0.trans (HB1.mono B0.size); have hr1 := hr0.below HB1; have hb1 := hb0.below HB1; obtain ⟨s0, s1, s2, s3⟩ := X1.read) | (go_at_call 11; (with_reducible refine (hOf _ hr1).mono ?_); rintro e w2 ⟨A2, c2, rfl, HO2, HB2⟩; have hr2 := HO2.rdl; have X2 := X1.below HB2; have B2 := B1.trans (HB2.mono B1.size); have hr12 := hr1.below HB2; have hb2 := hb1.below HB2) | (go_at_call 19; (with_reducible refine (hEn _ _ _ hr2).mono ?_); rintro e w3 ⟨v3, rfl, HO3, HB3⟩; have X3 := X2.below HB3; have B3 := B2.trans (HB3.mono B2.size); have hr3 := hr12.below HB3; have hb3 := hb2.below HB3; obtain ⟨A3, c3, rfl, hE3⟩ := HO3.rd; obtain ⟨t0, t1, t2, t3⟩ := X3.read; have hlt3 := X3.lt; have hne3 : ¬ w.heap.size = w3.heap.size := (by omega)) | (go_at_call 12; refine (num_any _ _).mono ?_; rintro e w' ⟨rfl, rfl⟩) | (go_at_call 20; (with_reducible refine (hDx _ hb3).mono ?_); rintro e w6 ⟨⟨A6, c6, rfl, HO6⟩, HB6⟩; have B6 := B3.trans (HB6.mono B3.size); have hb6 := hb3.below HB6; have Y6 := Bx.new w6 0 (.slice A6 0 c6) 30; have C6 := below_alloc w6 (.cells #[.int .i64 0, .slice A6 0 c6] 30); have hb6' := hb6.below C6; have HO6' := HO6.rdl.below C6; have B6' := B6.trans (C6.mono B6.size); obtain ⟨a0, a1, a2, a3⟩ := Y6.read))
  go_ret
  exact ⟨by simp, B6'⟩
theorem back_walk (q : Int) (A : Option Addr) (c : Nat) (l : List Chg) (D : Option Addr) (d : Nat) (x : List UInt8) (w : World) (hr : RdC w A c l) (hl : l.length * 40 ≤ 140737488351232) (hb : RdB w D d x) (hxl : x.length ≤ 140737488351232) :
    Calls Try.prog 5 #[.agg #[.int .i64 q, .slice A l.length c], .slice D x.length d] w fun e w' => e = .returned (.bool true) ∧ Below w.heap.size w w' := by
  by_cases hz : chkB q l = 0
  · by_cases hy : decE x = 0
    · exact back_11 q A c l D d x w hr hl hb hxl hz hy
    · exact back_10 q A c l D d x w hr hl hb hxl hz hy
  · by_cases hy : decE x = 0
    · exact back_01 q A c l D d x w hr hl hb hxl hz hy
    · exact back_00 q A c l D d x w hr hl hb hxl hz hy
end Go.Proofs.Ytebefonohemlfaa
end

/- What the law WalLogs reaches besides, and its walk. -/
import Derived.Test.YtebefonohemlfaaMgA
import Derived.Test.YtebefonohemlfaaMgB
import Derived.Test.YtebefonohemlfaaMgC
set_option linter.unusedVariables false
set_option linter.unusedSimpArgs false
section
/- Arguments opened: a batch; batches. -/
namespace Go.Proofs.Ytebefonohemlfaa
open Go.ChangeShapes Go.WideShapes Go.ChangeAt Go.RowKit Go.Proofs.YtebefonohemlfaaW.PrintWords
set_option maxRecDepth 100000
set_option linter.unusedVariables false
set_option maxRecDepth 100000 in
theorem open_bat {H : Type} {enc : TypeId × Value → H} {W : World} {base : Nat} {v : Value} {x : DataW H} {p : List MemPlace} (hv : Value.okWide Try.prog W .any base 24 v)
    (h : DataW.Trod enc Try.prog W 0 (fun _ => true) true 24 v x p) : ∃ q A c l, v = .agg #[.int .i64 q, .slice A l.length c] ∧ RdC W A c l ∧ (∀ B, (∀ y ∈ x.weights Try.prog 24, y ≤ B) → (Lit.int .i64 q).wf = true ∧ l.length * 40 ≤ B) ∧ l.length ≤ Rows.uptoBulk x := by
  have o1 := opens_struct Try.underlying35 (d := kChg) (by kernel_rfl) (opensF_cons rfl (by kernel_rfl) (opens_string Try.underlying9) (opensF_cons rfl (by kernel_rfl) (opens_bool Try.underlying4) (opensF_one rfl (by kernel_rfl) (opens_string Try.underlying9))))
  have o2 := opens_slice (t := 22) Try.underlying22 (by kernel_rfl) o1
  have o3 := opens_struct Try.underlying24 (d := kBat) (by kernel_rfl) (opensF_cons rfl (by kernel_rfl) (opens_int Try.underlying3) (opensF_one rfl (by kernel_rfl) o2))
  obtain ⟨⟨q, l⟩, cs, hv, hk, hS, hU⟩ := open_struct_of Try.underlying24 o3 hv h
  obtain ⟨A, c, hcs, hr⟩ := kBat_K hk
  refine ⟨q, A, c, l, ?_, hr, fun B hB => ?_, ?_⟩
  · rw [hv]
    congr 1
    apply Array.ext'
    exact hcs
  · obtain ⟨h1, h2, h3⟩ := hS B hB
    have e : Try.prog.bytesOf 35 = 40 := by kernel_rfl
    rw [e] at h2
    exact ⟨h1, h2⟩
  · have h1 : ∀ m : List Chg, m.length ≤ (m.map fun a : Chg => a.1.size + 1 + (1 + (a.2.2.size + 1)) + 1).sum := by
      intro m
      induction m with
      | nil => simp
      | cons y r ih => simp only [List.length_cons, List.map_cons, List.sum_cons]; omega
    have h2 := h1 l
    simp only at hU
    omega
end Go.Proofs.Ytebefonohemlfaa
end

section
/- The walk of WalLogs. -/
namespace Go.Proofs.Ytebefonohemlfaa
open Go.RowKit Go.Proofs.YtebefonohemlfaaW.PrintWords
set_option linter.unusedVariables false

theorem rpl_chg (f : Nat) : ∀ (b : List UInt8) (nx : Int), ∀ r ∈ (rpl f b nx).1, r.2.length ≤ 64 := by
  induction f with
  | zero => intro b nx r h; simp [rpl] at h
  | succ f ih =>
    intro b nx r h
    rw [rpl] at h
    by_cases hs : rStop b nx
    · rw [if_pos hs] at h; simp at h
    · rw [if_neg hs] at h
      rcases List.mem_cons.1 h with h | h
      · subst h; exact (dec_bounds (fgX b)).2.2.1
      · exact ih _ _ r h
theorem rpl_len (f : Nat) : ∀ (b : List UInt8) (nx : Int), (rpl f b nx).1.length * 5 ≤ b.length := by
  induction f with
  | zero => intro b nx; simp [rpl]
  | succ f ih =>
    intro b nx
    rw [rpl]
    by_cases hs : rStop b nx
    · rw [if_pos hs]; simp
    · rw [if_neg hs]
      obtain ⟨h1, _⟩ := rStop_ok hs
      obtain ⟨h2, h3, _⟩ := fg_ok b h1
      have := ih (b.drop (fgS b)) (decQ (fgX b) + (decL (fgX b)).length)
      rw [List.length_drop] at this
      rw [List.length_cons]
      omega
theorem rplN_chg (b : List UInt8) (nx : Int) (r : Bat) (h : r ∈ (rplN b nx).1) : r.2.length ≤ 9223372036854775806 := Nat.le_trans (rpl_chg _ b nx r h) (by decide)
set_option maxRecDepth 100000 in
set_option maxHeartbeats 3200000 in
theorem logs_walk (B : Option Addr) (d : Nat) (log : List UInt8) (q : Int) (A : Option Addr) (c : Nat) (l : List Chg) (w : World) (hb : RdB w B d log) (hlog : log.length ≤ 1048576) (hr : RdC w A c l) (hl : l.length ≤ 1048576) :
    Calls Try.prog 6 #[.slice B log.length d, .agg #[.int .i64 q, .slice A l.length c]] w fun e w' => e = .returned (.bool true) ∧ Below w.heap.size w w' := by
  have hCp := fun W (h : RdB W B d log) => CopyBytes_any B d log W h (by omega)
  have hOf := fun W (h : RdC W A c l) => of_any q A c l.length l W rfl h (by omega)
  have hAd := fun B d A c W (h : RdB W B d log) (h' : RdC W A c l) => Add_any B d log q A c l.length log.length l W rfl rfl h h' (by omega) (by omega)
  have hRa := fun W (h : RdB W B d log) (h' : RdC W A c l) => rAdd_any B d log q A c l.length log.length l W rfl rfl h h' (by omega) (by omega)
  have hS := fun A B c d W (h : RdB W A c (addX log q l)) (h' : RdB W B d (addX log q l)) => SameBytes_at A B c d _ _ (addX log q l) (addX log q l) W rfl rfl h h'
  have hS2 := fun A B c d W (h : RdB W A c log) (h' : RdB W B d log) => SameBytes_at A B c d _ _ log log W rfl rfl h h'
  have hRp := fun B d W (h : RdB W B d log) => Replay_any B d log W h (by omega)
  have hRr := fun B d W (h : RdB W B d log) => rReplay_any B d log W h (by omega)
  have hSA := fun A B c c' (R : List Bat) W (h : RdBt W A c R) (h' : RdBt W B c' R) (hl : R.length ≤ 9223372036854775806) (hb : ∀ b ∈ R, b.2.length ≤ 9223372036854775806) => sameAll_any A B c c' R.length R W rfl h h' hl hb
  have hch := rplN_chg log 0
  have hcl : (rplN log 0).1.length ≤ 9223372036854775806 := by have : (rplN log 0).1.length * 5 ≤ log.length := rpl_len _ log 0; omega
  simp only [decide_true] at hS hS2
  have hm := hr.max
  rcases hR : rplN log 0 with ⟨L, G⟩
  rw [hR] at hRp hRr hch hcl
  simp only at hRp hRr hch hcl
  obtain ⟨n, hn⟩ : ∃ n, l.length = n := ⟨_, rfl⟩
  obtain ⟨m, hmm⟩ : ∃ m, log.length = m := ⟨_, rfl⟩
  have HN := hide hn
  have HM := hide hmm
  rw [hn] at hOf hAd hRa hm hl ⊢
  rw [hmm] at hCp hAd hRa hRp hRr hS2 hlog ⊢
  generalize addX log q l = X at *
  generalize chkB q l = z at *
  obtain ⟨x, hx⟩ : ∃ x, X.length = x := ⟨_, rfl⟩
  have HX := hide hx
  rw [hx] at hS
  obtain ⟨nL, hnL⟩ : ∃ nL, L.length = nL := ⟨_, rfl⟩
  have HnL := hide hnL
  have HCH := hide hch
  have HCL := hide hcl
  clear hn hmm hx hR hnL hch hcl
  have hr0 := hr.below (below_alloc w (.cells #[.int .i64 q, .slice A n c] 24))
  have hb0 := hb.below (below_alloc w (.cells #[.int .i64 q, .slice A n c] 24))
  have X0 := Bx.new w q (.slice A n c) 24
  have B0 := below_alloc w (.cells #[.int .i64 q, .slice A n c] 24)
  obtain ⟨p0, p1, p2, p3⟩ := X0.read
  go_enter Try.func6, Try.ntmps6
  go_wp2_with (first | (go_at_call 14; (with_reducible refine (hCp _ hb0).mono ?_); rintro e w1 ⟨v1, rfl, HO1, HB1⟩; obtain ⟨A1, c1, hv1, hr1⟩ := HO1.rd; rw [HM.out] at hv1; subst hv1; have X1 := X0.below HB1; obtain ⟨s0, s1, s2, s3⟩ := X1.read; have B1 := B0.trans (HB1.mono B0.size); clear p0 p1 p2 p3) | (go_at_call 11; (with_reducible refine (hOf _ (hr0.below HB1)).mono ?_); rintro e w2 ⟨A2, c2, rfl, HO2, HB2⟩; have hr2 := HO2.rdl; have X2 := X1.below HB2; obtain ⟨t0, t1, t2, t3⟩ := X2.read; have B2 := B1.trans (HB2.mono B1.size); clear s0 s1 s2 s3) | (go_at_call 15; (with_reducible refine (hAd _ _ _ _ _ (hr1.below HB2) hr2).mono ?_); rintro e w3 ⟨v3, rfl, HO3, HB3⟩; obtain ⟨A3, c3, hv3, hr3⟩ := HO3.rd; rw [HX.out] at hv3; subst hv3; have X3 := X2.below HB3; obtain ⟨g0, g1, g2, g3⟩ := X3.read; have B3 := B2.trans (HB3.mono B2.size); clear t0 t1 t2 t3) | (go_at_call 16; (with_reducible refine (hRa _ (hb.below B3) (hr.below B3)).mono ?_); rintro e w4 ⟨v4, rfl, HO4, HB4⟩; obtain ⟨A4, c4, hv4, hr4⟩ := HO4.rd; rw [HX.out] at hv4; subst hv4; have B4 := B3.trans (HB4.mono B3.size); replace hr1 := ((hr1.below HB2).below HB3).below HB4; replace hr3 := hr3.below HB4; clear g0 g1 g2 g3) | (go_at_call 22; (with_reducible refine (hRp _ _ _ hr1).mono ?_); rintro e w5 ⟨v5, rfl, HO5, HB5⟩; obtain ⟨A5, c5, hv5, hr5⟩ := HO5.rd; rw [HnL.out] at hv5; subst hv5; have B5 := B4.trans (HB5.mono B4.size); replace hr1 := hr1.below HB5; replace hr3 := hr3.below HB5; replace hr4 := hr4.below HB5) | (go_at_call 23; (with_reducible refine (hRr _ _ _ (hb.below B5)).mono ?_); rintro e w6 ⟨v6, rfl, HO6, HB6⟩; obtain ⟨A6, c6, hv6, hr6⟩ := HO6.rd; rw [HnL.out] at hv6; subst hv6; have B6 := B5.trans (HB6.mono B5.size); replace hr1 := hr1.below HB6; replace hr3 := hr3.below HB6; replace hr4 := hr4.below HB6; replace hr5 := hr5.below HB6) | (go_at_call 18; first | ((with_reducible refine (hS _ _ _ _ _ hr3 hr4).mono ?_); rintro e w' ⟨rfl, rfl⟩) | ((with_reducible refine (hS2 _ _ _ _ _ hr1 (hb.below B6)).mono ?_); rintro e w' ⟨rfl, rfl⟩)) | (go_at_call 12; refine (num_any _ _).mono ?_; rintro e w' ⟨rfl, rfl⟩) | (go_at_call 24; rw [← HnL.out]; (with_reducible refine (hSA _ _ _ _ L _ hr5 hr6 HCL.out HCH.out).mono ?_); rintro e w7 ⟨rfl, HB7⟩; replace B6 := B6.trans (HB7.mono B6.size); replace hr1 := hr1.below HB7; rw [HnL.out]) | (go_at_call 9; refine (alive_any _).mono ?_; rintro e w8 ⟨rfl, HB8⟩; replace B6 := B6.trans (HB8.mono B6.size)))
  go_ret
  exact ⟨rfl, B6⟩
end Go.Proofs.Ytebefonohemlfaa
end

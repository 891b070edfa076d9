/- What the law WalRot reaches besides, and its walk. -/
import Derived.Test.YtebefonohemlfaaMgA
import Derived.Test.YtebefonohemlfaaMgB
import Derived.Test.YtebefonohemlfaaMgC
set_option linter.unusedVariables false
set_option linter.unusedSimpArgs false
section
/- Arguments opened: a batch; batches. -/
namespace Go.Proofs.Ytebefonohemlfaa
open Go.ChangeShapes Go.WideShapes Go.ChangeAt Go.RowKit Go.Proofs.YtebefonohemlfaaW.PrintWords
set_option maxRecDepth 100000
set_option linter.unusedVariables false
set_option maxRecDepth 100000 in
theorem open_bat {H : Type} {enc : TypeId × Value → H} {W : World} {base : Nat} {v : Value} {x : DataW H} {p : List MemPlace} (hv : Value.okWide Try.prog W .any base 24 v)
    (h : DataW.Trod enc Try.prog W 0 (fun _ => true) true 24 v x p) : ∃ q A c l, v = .agg #[.int .i64 q, .slice A l.length c] ∧ RdC W A c l ∧ (∀ B, (∀ y ∈ x.weights Try.prog 24, y ≤ B) → (Lit.int .i64 q).wf = true ∧ l.length * 40 ≤ B) ∧ l.length ≤ Rows.uptoBulk x := by
  have o1 := opens_struct Try.underlying35 (d := kChg) (by kernel_rfl) (opensF_cons rfl (by kernel_rfl) (opens_string Try.underlying9) (opensF_cons rfl (by kernel_rfl) (opens_bool Try.underlying4) (opensF_one rfl (by kernel_rfl) (opens_string Try.underlying9))))
  have o2 := opens_slice (t := 22) Try.underlying22 (by kernel_rfl) o1
  have o3 := opens_struct Try.underlying24 (d := kBat) (by kernel_rfl) (opensF_cons rfl (by kernel_rfl) (opens_int Try.underlying3) (opensF_one rfl (by kernel_rfl) o2))
  obtain ⟨⟨q, l⟩, cs, hv, hk, hS, hU⟩ := open_struct_of Try.underlying24 o3 hv h
  obtain ⟨A, c, hcs, hr⟩ := kBat_K hk
  refine ⟨q, A, c, l, ?_, hr, fun B hB => ?_, ?_⟩
  · rw [hv]
    congr 1
    apply Array.ext'
    exact hcs
  · obtain ⟨h1, h2, h3⟩ := hS B hB
    have e : Try.prog.bytesOf 35 = 40 := by kernel_rfl
    rw [e] at h2
    exact ⟨h1, h2⟩
  · have h1 : ∀ m : List Chg, m.length ≤ (m.map fun a : Chg => a.1.size + 1 + (1 + (a.2.2.size + 1)) + 1).sum := by
      intro m
      induction m with
      | nil => simp
      | cons y r ih => simp only [List.length_cons, List.map_cons, List.sum_cons]; omega
    have h2 := h1 l
    simp only at hU
    omega
end Go.Proofs.Ytebefonohemlfaa
end

section
/- Arguments opened: batches. -/
namespace Go.Proofs.Ytebefonohemlfaa
open Go.ChangeShapes Go.WideShapes Go.ChangeAt Go.RowKit Go.Proofs.YtebefonohemlfaaW.PrintWords
set_option maxRecDepth 100000
set_option linter.unusedVariables false
instance : Inhabited Bat := ⟨zBat⟩
theorem open_bats {H : Type} {enc : TypeId × Value → H} {W : World} {base : Nat} {v : Value} {x : DataW H} {p : List MemPlace} (hv : Value.okWide Try.prog W .any base 56 v)
    (h : DataW.Trod enc Try.prog W 0 (fun _ => true) true 56 v x p) : ∃ A c l, v = .slice A l.length c ∧ RdBt W A c l ∧ (∀ B, (∀ y ∈ x.weights Try.prog 56, y ≤ B) → ∀ b ∈ l, b.2.length * 40 ≤ B) := by
  have o1 := opens_struct Try.underlying35 (d := kChg) (by kernel_rfl) (opensF_cons rfl (by kernel_rfl) (opens_string Try.underlying9) (opensF_cons rfl (by kernel_rfl) (opens_bool Try.underlying4) (opensF_one rfl (by kernel_rfl) (opens_string Try.underlying9))))
  have o2 := opens_slice (t := 22) Try.underlying22 (by kernel_rfl) o1
  have o3 := opens_struct Try.underlying24 (d := kBat) (by kernel_rfl) (opensF_cons rfl (by kernel_rfl) (opens_int Try.underlying3) (opensF_one rfl (by kernel_rfl) o2))
  have o4 := opens_slice (t := 56) Try.underlying56 (by kernel_rfl) o3
  obtain ⟨A, c, l, hv, hl, hC, hS, hU⟩ := open_slice_of Try.underlying56 o4 hv h
  refine ⟨A, c, l, hv, ⟨hl, hC⟩, fun B hB b hb => ?_⟩
  obtain ⟨h1, h2, h3⟩ := (hS B hB).2 b hb
  have e : Try.prog.bytesOf 35 = 40 := by kernel_rfl
  rw [e] at h2
  exact h2
end Go.Proofs.Ytebefonohemlfaa
end

section
/- Wal: whatever stands behind batches, they are told first, plainly. -/
namespace Go.Proofs.Ytebefonohemlfaa
set_option linter.unusedVariables false

theorem rpl_prefix (G : List (Int × List Chg)) (rest : List UInt8) : ∀ (n nx : Int), linked n G → (∀ b ∈ G, chkB b.1 b.2 = 0) → (nx = 0 ∨ nx = n) → ∃ more, (rplN (catB G ++ rest) nx).1 = G ++ more := by
  induction G with
  | nil => intro n nx _ _ _; exact ⟨_, rfl⟩
  | cons b r ih =>
    intro n nx hl hc hn
    obtain ⟨q, l⟩ := b
    obtain ⟨rfl, hl⟩ := hl
    have hk : chkB q l = 0 := hc (q, l) List.mem_cons_self
    obtain ⟨d1, d2, d3⟩ := dec_enc q l hk
    have e : catB ((q, l) :: r) = putFX 1 (encB q l) ++ catB r := by rw [catB, List.map_cons, catF_cons]; rfl
    obtain ⟨g1, g2, g3, g4⟩ := get_frame 1 (encB q l) (catB r ++ rest) (putFE_enc q l hk).1
    rw [e, List.append_assoc]
    have hno : ¬ rStop (putFX 1 (encB q l) ++ (catB r ++ rest)) nx := by
      unfold rStop
      rw [g1, g2, g3, d1, d2]
      rintro (h | h | h | ⟨h, h'⟩)
      · exact h rfl
      · exact h rfl
      · exact h rfl
      · rcases hn with rfl | rfl
        · omega
        · exact h' rfl
    obtain ⟨more, hmore⟩ := ih (q + l.length) (q + l.length) hl (fun b hb => hc b (List.mem_cons_of_mem _ hb)) (.inr rfl)
    rw [rplN_go hno, g3, g4, d2, d3, List.drop_left, hmore]
    exact ⟨more, rfl⟩
/-- an octet turned at or behind the end of the first k: they are told all the same -/
theorem rpl_rot (G : List (Int × List Chg)) (hl : linked 1 G) (hc : ∀ b ∈ G, chkB b.1 b.2 = 0) (at_ k : Nat) (u : UInt8) (hk : k ≤ G.length) (h1 : endB G k ≤ at_) : ∃ more, (rplN ((catB G).set at_ u) 0).1 = G.take k ++ more := by
  have e : catB G = catB (G.take k) ++ catB (G.drop k) := by rw [catB, catB, catB, ← catF_app, ← List.map_append, List.take_append_drop]
  rw [catB_take] at h1
  rw [e, List.set_append_right _ _ h1]
  exact rpl_prefix (G.take k) _ 1 0 (linked_take 1 G k hl) (fun b hb => hc b (List.mem_of_mem_take hb)) (.inl rfl)
end Go.Proofs.Ytebefonohemlfaa
end

section
/- The walk of WalLogs. -/
namespace Go.Proofs.Ytebefonohemlfaa
open Go.RowKit Go.Proofs.YtebefonohemlfaaW.PrintWords
set_option linter.unusedVariables false

theorem rpl_chg (f : Nat) : ∀ (b : List UInt8) (nx : Int), ∀ r ∈ (rpl f b nx).1, r.2.length ≤ 64 := by
  induction f with
  | zero => intro b nx r h; simp [rpl] at h
  | succ f ih =>
    intro b nx r h
    rw [rpl] at h
    by_cases hs : rStop b nx
    · rw [if_pos hs] at h; simp at h
    · rw [if_neg hs] at h
      rcases List.mem_cons.1 h with h | h
      · subst h; exact (dec_bounds (fgX b)).2.2.1
      · exact ih _ _ r h
theorem rpl_len (f : Nat) : ∀ (b : List UInt8) (nx : Int), (rpl f b nx).1.length * 5 ≤ b.length := by
  induction f with
  | zero => intro b nx; simp [rpl]
  | succ f ih =>
    intro b nx
    rw [rpl]
    by_cases hs : rStop b nx
    · rw [if_pos hs]; simp
    · rw [if_neg hs]
      obtain ⟨h1, _⟩ := rStop_ok hs
      obtain ⟨h2, h3, _⟩ := fg_ok b h1
      have := ih (b.drop (fgS b)) (decQ (fgX b) + (decL (fgX b)).length)
      rw [List.length_drop] at this
      rw [List.length_cons]
      omega
theorem rplN_chg (b : List UInt8) (nx : Int) (r : Bat) (h : r ∈ (rplN b nx).1) : r.2.length ≤ 9223372036854775806 := Nat.le_trans (rpl_chg _ b nx r h) (by decide)
set_option maxRecDepth 100000 in
set_option maxHeartbeats 3200000 in
theorem logs_walk (B : Option Addr) (d : Nat) (log : List UInt8) (q : Int) (A : Option Addr) (c : Nat) (l : List Chg) (w : World) (hb : RdB w B d log) (hlog : log.length ≤ 1048576) (hr : RdC w A c l) (hl : l.length ≤ 1048576) :
    Calls Try.prog 6 #[.slice B log.length d, .agg #[.int .i64 q, .slice A l.length c]] w fun e w' => e = .returned (.bool true) ∧ Below w.heap.size w w' := by
  have hCp := fun W (h : RdB W B d log) => CopyBytes_any B d log W h (by omega)
  have hOf := fun W (h : RdC W A c l) => of_any q A c l.length l W rfl h (by omega)
  have hAd := fun B d A c W (h : RdB W B d log) (h' : RdC W A c l) => Add_any B d log q A c l.length log.length l W rfl rfl h h' (by omega) (by omega)
  have hRa := fun W (h : RdB W B d log) (h' : RdC W A c l) => rAdd_any B d log q A c l.length log.length l W rfl rfl h h' (by omega) (by omega)
  have hS := fun A B c d W (h : RdB W A c (addX log q l)) (h' : RdB W B d (addX log q l)) => SameBytes_at A B c d _ _ (addX log q l) (addX log q l) W rfl rfl h h'
  have hS2 := fun A B c d W (h : RdB W A c log) (h' : RdB W B d log) => SameBytes_at A B c d _ _ log log W rfl rfl h h'
  have hRp := fun B d W (h : RdB W B d log) => Replay_any B d log W h (by omega)
  have hRr := fun B d W (h : RdB W B d log) => rReplay_any B d log W h (by omega)
  have hSA := fun A B c c' (R : List Bat) W (h : RdBt W A c R) (h' : RdBt W B c' R) (hl : R.length ≤ 9223372036854775806) (hb : ∀ b ∈ R, b.2.length ≤ 9223372036854775806) => sameAll_any A B c c' R.length R W rfl h h' hl hb
  have hch := rplN_chg log 0
  have hcl : (rplN log 0).1.length ≤ 9223372036854775806 := by have : (rplN log 0).1.length * 5 ≤ log.length := rpl_len _ log 0; omega
  simp only [decide_true] at hS hS2
  have hm := hr.max
  rcases hR : rplN log 0 with ⟨L, G⟩
  rw [hR] at hRp hRr hch hcl
  simp only at hRp hRr hch hcl
  obtain ⟨n, hn⟩ : ∃ n, l.length = n := ⟨_, rfl⟩
  obtain ⟨m, hmm⟩ : ∃ m, log.length = m := ⟨_, rfl⟩
  have HN := hide hn
  have HM := hide hmm
  rw [hn] at hOf hAd hRa hm hl ⊢
  rw [hmm] at hCp hAd hRa hRp hRr hS2 hlog ⊢
  generalize addX log q l = X at *
  generalize chkB q l = z at *
  obtain ⟨x, hx⟩ : ∃ x, X.length = x := ⟨_, rfl⟩
  have HX := hide hx
  rw [hx] at hS
  obtain ⟨nL, hnL⟩ : ∃ nL, L.length = nL := ⟨_, rfl⟩
  have HnL := hide hnL
  have HCH := hide hch
  have HCL := hide hcl
  clear hn hmm hx hR hnL hch hcl
  have hr0 := hr.below (below_alloc w (.cells #[.int .i64 q, .slice A n c] 24))
  have hb0 := hb.below (below_alloc w (.cells #[.int .i64 q, .slice A n c] 24))
  have X0 := Bx.new w q (.slice A n c) 24
  have B0 := below_alloc w (.cells #[.int .i64 q, .slice A n c] 24)
  obtain ⟨p0, p1, p2, p3⟩ := X0.read
  go_enter Try.func6, Try.ntmps6
  go_wp2_with (first | (go_at_call 14; (with_reducible refine (hCp _ hb0).mono ?_); rintro e w1 ⟨v1, rfl, HO1, HB1⟩; obtain ⟨A1, c1, hv1, hr1⟩ := HO1.rd; rw [HM.out] at hv1; subst hv1; have X1 := X0.below HB1; obtain ⟨s0, s1, s2, s3⟩ := X1.read; have B1 := B0.trans (HB1.mono B0.size); clear p0 p1 p2 p3) | (go_at_call 11; (with_reducible refine (hOf _ (hr0.below HB1)).mono ?_); rintro e w2 ⟨A2, c2, rfl, HO2, HB2⟩; have hr2 := HO2.rdl; have X2 := X1.below HB2; obtain ⟨t0, t1, t2, t3⟩ := X2.read; have B2 := B1.trans (HB2.mono B1.size); clear s0 s1 s2 s3) | (go_at_call 15; (with_reducible refine (hAd _ _ _ _ _ (hr1.below HB2) hr2).mono ?_); rintro e w3 ⟨v3, rfl, HO3, HB3⟩; obtain ⟨A3, c3, hv3, hr3⟩ := HO3.rd; rw [HX.out] at hv3; subst hv3; have X3 := X2.below HB3; obtain ⟨g0, g1, g2, g3⟩ := X3.read; have B3 := B2.trans (HB3.mono B2.size); clear t0 t1 t2 t3) | (go_at_call 16; (with_reducible refine (hRa _ (hb.below B3) (hr.below B3)).mono ?_); rintro e w4 ⟨v4, rfl, HO4, HB4⟩; obtain ⟨A4, c4, hv4, hr4⟩ := HO4.rd; rw [HX.out] at hv4; subst hv4; have B4 := B3.trans (HB4.mono B3.size); replace hr1 := ((hr1.below HB2).below HB3).below HB4; replace hr3 := hr3.below HB4; clear g0 g1 g2 g3) | (go_at_call 22; (with_reducible refine (hRp _ _ _ hr1).mono ?_); rintro e w5 ⟨v5, rfl, HO5, HB5⟩; obtain ⟨A5, c5, hv5, hr5⟩ := HO5.rd; rw [HnL.out] at hv5; subst hv5; have B5 := B4.trans (HB5.mono B4.size); replace hr1 := hr1.below HB5; replace hr3 := hr3.below HB5; replace hr4 := hr4.below HB5) | (go_at_call 23; (with_reducible refine (hRr _ _ _ (hb.below B5)).mono ?_); rintro e w6 ⟨v6, rfl, HO6, HB6⟩; obtain ⟨A6, c6, hv6, hr6⟩ := HO6.rd; rw [HnL.out] at hv6; subst hv6; have B6 := B5.trans (HB6.mono B5.size); replace hr1 := hr1.below HB6; replace hr3 := hr3.below HB6; replace hr4 := hr4.below HB6; replace hr5 := hr5.below HB6) | (go_at_call 18; first | ((with_reducible refine (hS _ _ _ _ _ hr3 hr4).mono ?_); rintro e w' ⟨rfl, rfl⟩) | ((with_reducible refine (hS2 _ _ _ _ _ hr1 (hb.below B6)).mono ?_); rintro e w' ⟨rfl, rfl⟩)) | (go_at_call 12; refine (num_any _ _).mono ?_; rintro e w' ⟨rfl, rfl⟩) | (go_at_call 24; rw [← HnL.out]; (with_reducible refine (hSA _ _ _ _ L _ hr5 hr6 HCL.out HCH.out).mono ?_); rintro e w7 ⟨rfl, HB7⟩; replace B6 := B6.trans (HB7.mono B6.size); replace hr1 := hr1.below HB7; rw [HnL.out]) | (go_at_call 9; refine (alive_any _).mono ?_; rintro e w8 ⟨rfl, HB8⟩; replace B6 := B6.trans (HB8.mono B6.size)))
  go_ret
  exact ⟨rfl, B6⟩
end Go.Proofs.Ytebefonohemlfaa
end

section
/- The walk of WalRot. -/
namespace Go.Proofs.Ytebefonohemlfaa
open Go.RowKit Go.Proofs.YtebefonohemlfaaW.PrintWords
set_option linter.unusedVariables false

theorem rot_index (n : Nat) (hn : 0 < n) (hn2 : n ≤ 1400000) (at_ : Int) : ∃ j : Nat, j < n ∧ (wrap64 (at_.tmod (n : Int) + (n : Int))).tmod (n : Int) = (j : Int) := by
  have hp : 0 < (n : Int) := by omega
  have t1 := Int.tmod_lt_of_pos at_ hp
  have t2 := Int.lt_tmod_of_pos at_ hp
  have hw : wrap64 (at_.tmod (n : Int) + (n : Int)) = at_.tmod (n : Int) + (n : Int) := by
    unfold wrap64
    omega
  rw [hw]
  have t3 := Int.tmod_lt_of_pos (at_.tmod (n : Int) + (n : Int)) hp
  have t4 := Int.tmod_nonneg (n : Int) (a := at_.tmod (n : Int) + (n : Int)) (by omega)
  exact ⟨((at_.tmod (n : Int) + (n : Int)).tmod (n : Int)).toNat, by omega, by omega⟩
/-- the turned log, replayed: what is needed of it -/
theorem rot_res (G : List Bat) (h1 : linked 1 G) (h2 : ∀ b ∈ G, chkB b.1 b.2 = 0) (j : Nat) (u : UInt8) (L : Nat) (hL : (catB G).length = L) (hL2 : L ≤ 1400000) :
    ∃ (R : List Bat) (n : Nat), rplN ((catB G).set j u) 0 = (R, n) ∧ R.length ≤ 280000 ∧ (∀ b ∈ R, b.2.length ≤ 9223372036854775806) ∧ ∀ k, k ≤ G.length → endB G k ≤ j → k ≤ R.length ∧ R.take k = G.take k := by
  rcases hR : rplN ((catB G).set j u) 0 with ⟨R, n⟩
  refine ⟨R, n, rfl, ?_, fun b hb => rplN_chg ((catB G).set j u) 0 b (by rw [hR]; exact hb), fun k hk he => ?_⟩
  · have : (rplN ((catB G).set j u) 0).1.length * 5 ≤ ((catB G).set j u).length := rpl_len _ _ 0
    rw [hR, List.length_set] at this
    simp only at this
    omega
  · obtain ⟨more, hm⟩ := rpl_rot G h1 h2 j k u hk he
    rw [hR] at hm
    simp only at hm
    have hl : (G.take k).length = k := by rw [List.length_take]; omega
    refine ⟨by rw [hm, List.length_append, hl]; omega, ?_⟩
    rw [hm, List.take_append_of_le_length (by rw [hl]; exact Nat.le_refl _), List.take_take, Nat.min_self]
set_option maxRecDepth 100000 in
set_option maxHeartbeats 3200000 in
theorem rot_walk (A : Option Addr) (ca : Nat) (l : List Bat) (at0 e0 : Int) (w : World) (hx : RdBt w A ca l) (hll : ∀ b ∈ l, b.2.length * 40 ≤ 140737488351232) (hat : (Lit.int .i64 at0).wf = true) (he : (Lit.int .u8 e0).wf = true) :
    Calls Try.prog 8 #[.slice A l.length ca, .int .i64 at0, .int .u8 e0] w fun e w' => e = .returned (.bool true) ∧ Below w.heap.size w w' := by
  have hCh := chain_any A ca l w hx hll
  have hok := chS_ok l
  obtain ⟨n, hn⟩ : ∃ n, l.length = n := ⟨_, rfl⟩
  rw [hn] at hCh ⊢
  have HOK := hide hok
  obtain ⟨x, rfl⟩ : ∃ x : UInt8, (x.toNat : Int) = e0 := ⟨UInt8.ofNat e0.toNat, by
    have : 0 ≤ e0 ∧ e0 ≤ 255 := by simpa [Lit.wf, IntKind.min, IntKind.max, IntKind.signed, IntKind.bits] using he
    simp only [UInt8.toNat_ofNat']
    omega⟩
  clear hat hn hll hok he
  go_enter Try.func8, Try.ntmps8
  go_wp2_with (first | (go_at_call 25; (with_reducible refine hCh.mono ?_); rintro e w1 ⟨k, v, al, en, hk20, rfl, HO1, HO2, HO3, HB⟩))
  obtain ⟨i1, -, i3, i4, -, -⟩ := HOK.out k
  generalize (chS l k).2 = G at *
  have hall := rpl_all G i1 i3
  have hCL := catB_len G
  have hEL := endsB_length G
  have hEG := endsB_get G
  have hE0 : endB G 0 = 0 := by rw [catB_take]; rfl
  have hSc := fun A c W (h : RdB W A c (catB G)) => rReplay_any A c (catB G) W h (by omega)
  rw [hall] at hSc
  have hGl : G.length ≤ 20 := by omega
  obtain ⟨A7, c7, hv7, hr7⟩ := HO2.rd
  obtain ⟨A8, c8, hv8, hr8⟩ := HO3.rd
  rw [hEL] at hv7
  have hRot := fun j u => rot_res G i1 i3 j u _ rfl (by omega)
  have HRot := hide hRot
  obtain ⟨L, hL⟩ : ∃ L, (catB G).length = L := ⟨_, rfl⟩
  obtain ⟨N, hNN⟩ : ∃ N, G.length = N := ⟨_, rfl⟩
  have HL := hide hL
  have HNN := hide hNN
  have HEL := hide hEL
  have hLl : L ≤ 1400000 := by omega
  have hNl : N ≤ 20 := by omega
  have hlen := HO1.rd
  obtain ⟨A6, c6, hv6, hr6⟩ := hlen
  rw [hL] at hv6 hSc
  rw [hNN] at hv7 hv8
  subst hv6
  subst hv7
  subst hv8
  have HEG := hide hEG
  have HE0 := hide hE0
  have HI1 := hide i1
  have HI3 := hide i3
  clear hall hEL hEG hL hNN hx hE0 i1 i3 i4 hCh HOK hCL hRot hGl
  by_cases hL0 : L = 0
  · subst hL0
    clear hSc
    go_wp2_with (first | (go_at_call 9; refine (alive_any _).mono ?_; rintro e w2 ⟨rfl, HB2⟩; replace HB := HB.trans (HB2.mono HB.size)))
    go_ret
    exact ⟨rfl, HB⟩
  · by_cases hx0 : x = 0
    · subst hx0
      clear hSc
      have z0 : ((0 : UInt8).toNat : Int) = 0 := rfl
      rw [z0]
      have hLi : ¬ (L : Int) = 0 := by omega
      go_wp2_with (first | (go_at_call 9; refine (alive_any _).mono ?_; rintro e w2 ⟨rfl, HB2⟩; replace HB := HB.trans (HB2.mono HB.size)))
      go_ret
      exact ⟨rfl, HB⟩
    · obtain ⟨j, hj, hje⟩ := rot_index L (by omega) hLl at0
      have hxi : ¬ (x.toNat : Int) = 0 := fun h => hx0 (UInt8.toNat_inj.1 (by simpa using Int.ofNat_eq_zero.1 h))
      have hxn : ¬ x.toNat = 0 := fun h => hx0 (UInt8.toNat_inj.1 (by simpa using h))
      have hxb : ((x.toNat : Int) == 0) = false := beq_eq_false_iff_ne.2 hxi
      have hLb : ((L : Int) == 0) = false := beq_eq_false_iff_ne.2 (by omega)
      have hLi : ¬ (L : Int) = 0 := by omega
      have hji : (j : Int) < (L : Int) := by omega
      have HX := hide (xor_u8 ((catB G).getD j 0) x)
      obtain ⟨R, m2, hR, hR1, hR2, hR3⟩ := HRot.out j ((catB G).getD j 0 ^^^ x)
      have hsl : ((catB G).set j ((catB G).getD j 0 ^^^ x)).length = L := by rw [List.length_set, HL.out]
      have hRp := fun A c W (h : RdB W A c ((catB G).set j ((catB G).getD j 0 ^^^ x))) => Replay_any A c _ W h (by rw [hsl]; omega)
      have hRr := fun A c W (h : RdB W A c ((catB G).set j ((catB G).getD j 0 ^^^ x))) => rReplay_any A c _ W h (by rw [hsl]; omega)
      rw [hR, hsl] at hRp hRr
      simp only at hRp hRr
      have HR3 := hide hR3
      have HR2 := hide hR2
      have HSL := hide hsl
      obtain ⟨M, hM⟩ : ∃ M, R.length = M := ⟨_, rfl⟩
      have HM := hide hM
      rw [hM] at hR1
      clear hsl hR hR2 hR3 HRot hM
      go_wp2_with (first | (go_at_call 9; refine (alive_any _).mono ?_; rintro e w2 ⟨rfl, HB2⟩; replace HB := HB.trans (HB2.mono HB.size); replace HO1 := HO1.below HB2; replace HO2 := HO2.below HB2; replace HO3 := HO3.below HB2; replace hr6 := hr6.below HB2) | (go_at_call 23; (with_reducible refine (hSc _ _ _ hr6).mono ?_); rintro e w3 ⟨v3, rfl, HO9, HB3⟩; obtain ⟨A9, c9, hv9, hr9⟩ := HO9.rd; rw [HNN.out] at hv9; subst hv9; replace HB := HB.trans (HB3.mono HB.size); replace HO1 := HO1.below HB3; replace HO2 := HO2.below HB3; replace HO3 := HO3.below HB3; obtain ⟨g, cg, hv3, hgb, hgl, hcell, hfr, hset⟩ := HO1.set_ j (by rw [HL.out]; exact hj); rw [HL.out] at hv3; cases hv3; obtain ⟨HS, HG⟩ := hset ((catB G).getD j 0 ^^^ x); clear hset; generalize (catB G).getD j 0 = y at *; simp only [hje]))
      rw [HX.out]
      have HBs := HB.setCell (p := ⟨g, j, none⟩) hgb (.int .u8 ((y ^^^ x).toNat : Int))
      have HO2s := Ow.over HO2 HO1.ow (by decide) HG
      have HO3s := Ow.over HO3 HO1.ow (one_ne (by decide)) HG
      have hr7s : Rd kInt (w3.setCell ⟨g, j, none⟩ (.int .u8 ((y ^^^ x).toNat : Int))) A7 c7 (endsB G) := by
        obtain ⟨A', c', hv, hr⟩ := HO2s.rd
        cases hv
        exact hr
      have hr8s : RdBt (w3.setCell ⟨g, j, none⟩ (.int .u8 ((y ^^^ x).toNat : Int))) A8 c8 G := by
        obtain ⟨A', c', hv, hr⟩ := HO3s.rd
        cases hv
        exact bfix_rd hr HBs
      clear HO1 HO2 HO3 HO2s HO3s HG hcell hfr hr7 hr8 hr6 hr9 HO9
      go_loopw [13] (fun kk wr => ∃ q : Nat, q ≤ N ∧ kk = .int .i64 (q : Int) ∧ endB G q ≤ j ∧ Below w.heap.size w wr ∧ OwB wr w.heap.size (.slice (some ⟨g, 0, none⟩) L c6) ((catB G).set j (y ^^^ x)) ∧ Rd kInt wr A7 c7 (endsB G) ∧ RdBt wr A8 c8 G) (fun kk _ => N - (intOf kk).toNat)
      case atStart => exact ⟨0, Nat.zero_le _, rfl, by rw [HE0.out]; exact Nat.zero_le _, HBs, HS, hr7s, hr8s⟩
      case round =>
        obtain ⟨q, hq, rfl, hqj, HBx, HOx, hr7x, hr8x⟩ := hrel
        clear HBs HS hr7s hr8s HB hgb hgl
        by_cases hlt : q < N
        · obtain ⟨ad7, rfl, hc7⟩ := hr7x.int_at q (by rw [HEL.out, HNN.out]; exact hlt)
          rw [HEG.out q (by rw [HNN.out]; exact hlt)] at hc7
          have hlti : (q : Int) < (N : Int) := Int.ofNat_lt.2 hlt
          obtain ⟨E, hE⟩ : ∃ E, endB G (q + 1) = E := ⟨_, rfl⟩
          rw [hE] at hc7
          have HE := hide hE
          clear hE
          by_cases hle : E ≤ j
          · have hlei : (E : Int) ≤ (j : Int) := Int.ofNat_le.2 hle
            go_wp2
            go_roundw
            case rel => exact ⟨q + 1, hlt, by go_num, by rw [HE.out]; exact hle, HBx, HOx, hr7x, hr8x⟩
            case measure => simp [intOf]; omega
          · have hlei : ¬ (E : Int) ≤ (j : Int) := fun h => hle (Int.ofNat_le.1 h)
            obtain ⟨hk1, hk2⟩ := HR3.out q (by rw [HNN.out]; exact hq) hqj
            have hk1' : q ≤ M := by rw [← HM.out]; exact hk1
            have hgk := hr8x.take q (by rw [HNN.out]; exact hq)
            have hgl : (G.take q).length = q := by rw [List.length_take, HNN.out]; exact Nat.min_eq_left hq
            have HGL := hide hgl
            have HK2 := hide hk2
            have hqM : (q : Int) ≤ (M : Int) := Int.ofNat_le.2 hk1'
            have HG64 := hide (fun b (hb : b ∈ G.take q) => Nat.le_trans (chkB_len _ _ (HI3.out b (List.mem_of_mem_take hb))).2.1 (by decide : 64 ≤ 9223372036854775806))
            clear hk1 hgl hk2
            go_wp2_with (first | (go_at_call 22; (with_reducible refine (hRp _ _ _ HOx.rdl).mono ?_); rintro e w5 ⟨v5, rfl, HO5, HB5⟩; obtain ⟨A5, c5, hv5, hr5⟩ := HO5.rd; rw [HM.out] at hv5; subst hv5; have B5 := HBx.trans (HB5.mono HBx.size); replace hgk := hgk.below HB5; replace hr8x := hr8x.below HB5; replace HOx := HOx.below HB5) | (go_at_call 23; (with_reducible refine (hRr _ _ _ HOx.rdl).mono ?_); rintro e w6 ⟨v6, rfl, HO6, HB6⟩; obtain ⟨A10, c10, hv6, hr10⟩ := HO6.rd; rw [HM.out] at hv6; subst hv6; have B6 := B5.trans (HB6.mono B5.size); replace hgk := hgk.below HB6; replace hr5 := hr5.below HB6; have hgot := hr5.take q (by rw [HM.out]; exact hk1'); rw [HK2.out] at hgot; have hc5 := hr5.1; have hc8 := (hr8x.below HB6).1; rw [HM.out] at hc5; rw [HNN.out] at hc8))
            have hs1 := fun W => sliceK_hi 53 30 Try.underlying53 (i := _) rfl A5 M c5 q (Nat.le_trans hk1' hc5) W
            have hs2 := fun W => sliceK_hi 56 24 Try.underlying56 (i := _) rfl A8 N c8 q (Nat.le_trans hq hc8) W
            have hd : Below w6.heap.size w6 w6.drew := (Below.refl _ _).drew
            have hA1 : ∀ W, Below w6.heap.size w6 W → Calls Try.prog 24 #[.slice A5 M c5, .slice A10 M c10] W fun e w' => e = .returned (.bool true) ∧ Below w6.heap.size w6 w' := fun W hW => (sameAll_any A5 A10 c5 c10 M R W HM.out (hr5.below hW) (hr10.below hW) (by rw [HM.out]; exact Nat.le_trans hR1 (by decide)) HR2.out).mono (fun e w' ⟨h1, h2⟩ => ⟨h1, hW.trans (h2.mono hW.size)⟩)
            have hA2 : ∀ W, Below w6.heap.size w6 W → Calls Try.prog 24 #[.slice A5 q c5, .slice A8 q c8] W fun e w' => e = .returned (.bool true) ∧ Below w6.heap.size w6 w' := fun W hW => (sameAll_any A5 A8 c5 c8 q (G.take q) W HGL.out (hgot.below hW) (hgk.below hW) (by rw [HGL.out]; exact Nat.le_trans hq (Nat.le_trans hNl (by decide))) HG64.out).mono (fun e w' ⟨h1, h2⟩ => ⟨h1, hW.trans (h2.mono hW.size)⟩)
            clear hr5 hr10 hgot hgk HR3 HO5 HO6 hk1' hc5 hc8 hr8x HOx hRp hRr
            go_region_held3 (fun w' => Below w6.heap.size w6 w') (first | exact hd | assumption) (first | (go_at_call 24; first | ((with_reducible refine (hA1 _ (by assumption)).mono ?_); rintro e w7 ⟨rfl, HB7⟩) | ((with_reducible refine (hA2 _ (by assumption)).mono ?_); rintro e w8 ⟨rfl, HB8⟩)))
            go_wp2
            go_ret
            exact ⟨rfl, B6.trans (HB8.mono B6.size)⟩
        · have hlti : ¬ (q : Int) < (N : Int) := fun h => hlt (Int.ofNat_lt.1 h)
          obtain ⟨hk1, hk2⟩ := HR3.out q (by rw [HNN.out]; exact hq) hqj
          have hk1' : q ≤ M := by rw [← HM.out]; exact hk1
          have hgk := hr8x.take q (by rw [HNN.out]; exact hq)
          have hgl : (G.take q).length = q := by rw [List.length_take, HNN.out]; exact Nat.min_eq_left hq
          have HGL := hide hgl
          have HK2 := hide hk2
          have hqM : (q : Int) ≤ (M : Int) := Int.ofNat_le.2 hk1'
          have HG64 := hide (fun b (hb : b ∈ G.take q) => Nat.le_trans (chkB_len _ _ (HI3.out b (List.mem_of_mem_take hb))).2.1 (by decide : 64 ≤ 9223372036854775806))
          clear hk1 hgl hk2
          go_wp2_with (first | (go_at_call 22; (with_reducible refine (hRp _ _ _ HOx.rdl).mono ?_); rintro e w5 ⟨v5, rfl, HO5, HB5⟩; obtain ⟨A5, c5, hv5, hr5⟩ := HO5.rd; rw [HM.out] at hv5; subst hv5; have B5 := HBx.trans (HB5.mono HBx.size); replace hgk := hgk.below HB5; replace hr8x := hr8x.below HB5; replace HOx := HOx.below HB5) | (go_at_call 23; (with_reducible refine (hRr _ _ _ HOx.rdl).mono ?_); rintro e w6 ⟨v6, rfl, HO6, HB6⟩; obtain ⟨A10, c10, hv6, hr10⟩ := HO6.rd; rw [HM.out] at hv6; subst hv6; have B6 := B5.trans (HB6.mono B5.size); replace hgk := hgk.below HB6; replace hr5 := hr5.below HB6; have hgot := hr5.take q (by rw [HM.out]; exact hk1'); rw [HK2.out] at hgot; have hc5 := hr5.1; have hc8 := (hr8x.below HB6).1; rw [HM.out] at hc5; rw [HNN.out] at hc8))
          have hs1 := fun W => sliceK_hi 53 30 Try.underlying53 (i := _) rfl A5 M c5 q (Nat.le_trans hk1' hc5) W
          have hs2 := fun W => sliceK_hi 56 24 Try.underlying56 (i := _) rfl A8 N c8 q (Nat.le_trans hq hc8) W
          have hd : Below w6.heap.size w6 w6.drew := (Below.refl _ _).drew
          have hA1 : ∀ W, Below w6.heap.size w6 W → Calls Try.prog 24 #[.slice A5 M c5, .slice A10 M c10] W fun e w' => e = .returned (.bool true) ∧ Below w6.heap.size w6 w' := fun W hW => (sameAll_any A5 A10 c5 c10 M R W HM.out (hr5.below hW) (hr10.below hW) (by rw [HM.out]; exact Nat.le_trans hR1 (by decide)) HR2.out).mono (fun e w' ⟨h1, h2⟩ => ⟨h1, hW.trans (h2.mono hW.size)⟩)
          have hA2 : ∀ W, Below w6.heap.size w6 W → Calls Try.prog 24 #[.slice A5 q c5, .slice A8 q c8] W fun e w' => e = .returned (.bool true) ∧ Below w6.heap.size w6 w' := fun W hW => (sameAll_any A5 A8 c5 c8 q (G.take q) W HGL.out (hgot.below hW) (hgk.below hW) (by rw [HGL.out]; exact Nat.le_trans hq (Nat.le_trans hNl (by decide))) HG64.out).mono (fun e w' ⟨h1, h2⟩ => ⟨h1, hW.trans (h2.mono hW.size)⟩)
          clear hr5 hr10 hgot hgk HR3 HO5 HO6 hk1' hc5 hc8 hr8x HOx hRp hRr
          go_region_held3 (fun w' => Below w6.heap.size w6 w') (first | exact hd | assumption) (first | (go_at_call 24; first | ((with_reducible refine (hA1 _ (by assumption)).mono ?_); rintro e w7 ⟨rfl, HB7⟩) | ((with_reducible refine (hA2 _ (by assumption)).mono ?_); rintro e w8 ⟨rfl, HB8⟩)))
          go_wp2
          go_ret
          exact ⟨rfl, B6.trans (HB8.mono B6.size)⟩
end Go.Proofs.Ytebefonohemlfaa
end

/- The contracts that the laws of this seat share: octets, sums, numbers, records. -/
import Derived.Test.YtebefonohemlfaaMgB
import Derived.Test.YtebefonohemlfaaMgA
set_option linter.unusedVariables false
set_option linter.unusedSimpArgs false
section
/- Wal: the walk of the reference's Decode, where it answers an error. -/
namespace Go.Proofs.Ytebefonohemlfaa
open Go.RowKit Go.Proofs.YtebefonohemlfaaW.PrintWords
set_option linter.unusedVariables false

theorem rdMany_fails (k : Nat) (b : List UInt8) (cs : List Chg) (r : List UInt8) (h : rdMany k b = .ok (cs, r)) (z : Int) (h' : rdMany (k + 1) b = .error z) : rdChange r = .error z := by
  rw [rdMany, h] at h'
  simp only at h'
  split at h'
  · next z2 h2 => rw [h2]; injection h' with h'; rw [h']
  · cases h'
set_option maxRecDepth 100000 in
set_option maxHeartbeats 1600000 in
theorem rDecode_e1 (A : Option Addr) (c n : Nat) (x : List UInt8) (w : World) (hn : x.length = n) (hx : RdB w A c x) (hn2 : n ≤ 140737488355328) (z : Int) (h1 : rdNum 1099511627776 4 x = .error z) :
    Calls Try.prog 40 #[.slice A n c] w fun e w' => e = .returned (.tuple #[.agg #[.int .i64 0, .slice none 0 0], .int .i64 z]) ∧ Below w.heap.size w w' := by
  obtain ⟨R0, Z0, Y0, B0⟩ := rW_at w A c n
  have hst := St.of hx
  have ne10 : w.heap.size + 1 ≠ w.heap.size := by omega
  have ne12 : w.heap.size + 1 ≠ w.heap.size + 1 + 1 := by omega
  have ne02 : w.heap.size ≠ w.heap.size + 1 + 1 := by omega
  have hg1 : w.heap.size ≤ w.heap.size + 1 := Nat.le_succ _
  have hg2 : w.heap.size ≤ w.heap.size + 1 + 1 := Nat.le_succ_of_le (Nat.le_succ _)
  have hz := rdNum_ne _ _ (by decide) _ _ h1
  have hN1 := fun W (h : Rs (w.heap.size + 1) A c n 0 0 W) (hb : Below w.heap.size w W) => rNum_err w (w.heap.size + 1) A c n 0 x hst hn hn2 (Nat.zero_le _) 1099511627776 1099511627776 rfl (Nat.le_refl _) 4 W h hb z (by rw [List.drop_zero]; exact h1)
  have hN2 := fun W (h : Rs (w.heap.size + 1) A c n 0 z W) => rNum_off w (w.heap.size + 1) A c n 0 z hz 1099511627776 4 W h
  clear h1 hn hx
  go_enter Try.func40, Try.ntmps40
  go_wp2_with (first | (go_at_call 54; (with_reducible refine (hN1 _ R0 B0).mono ?_); rintro e w2 ⟨rfl, R2, hg_2⟩; have Z2 := Z0.gb hg_2 ne10; have Y2 := Y0.gb hg_2 ne12; have B2 := B0.trans (hg_2.2 _ hg1 B0.size); obtain ⟨y20, y21, y22, y23⟩ := Y2.read; have Y3 := Y2.set0 0; have Z3 := Z2.away (j := 0) ne02 (.int .i64 0); have R3 := R2.far (j := 0) ne12 (.int .i64 0); have B3 := B2.setCell (p := ⟨w.heap.size + 1 + 1, 0, none⟩) hg2 (.int .i64 0)) | (go_at_call 54; (with_reducible refine (hN2 _ R3).mono ?_); rintro e w4 ⟨rfl, R4, hg_4⟩; have Z4 := Z3.gb hg_4 ne10; have Y4 := Y3.gb hg_4 ne12; have B4 := B3.trans (hg_4.2 _ hg1 B3.size); obtain ⟨r40, r41, r42, r43, r44, r45⟩ := R4.read; obtain ⟨y40, y41, y42, y43⟩ := Y4.read))
  go_loopw [7] (fun i wr => i = .int .i64 0 ∧ (∃ p : Nat, Rs (w.heap.size + 1) A c n p z wr) ∧ Bx wr w.heap.size 0 (.slice none 0 0) 24 ∧ Below w.heap.size w wr) (fun _ _ => 0)
  case atStart => exact ⟨rfl, ⟨_, R4⟩, Z4, B4⟩
  case round =>
    obtain ⟨rfl, ⟨p, Rr⟩, Zr, Br⟩ := hrel
    obtain ⟨rq0, rq1, rq2, rq3, rq4, rq5⟩ := Rr.read
    obtain ⟨zq0, zq1, zq2, zq3⟩ := Zr.read
    go_wp2
    go_region
    all_goals go_wp2
    have V := (Zr.set0 0).set1 (.slice none 0 0)
    obtain ⟨v0, v1, _, _⟩ := V.read
    refine bodyPost_ret (v := .tuple #[.agg #[.int .i64 0, .slice none 0 0], .int .i64 z]) ?_ rfl ⟨rfl, ?_⟩
    · simp [results, Try.results40, go_sem, v0, v1]
    · exact ((Br.setCell (p := ⟨_, 0, none⟩) (Nat.le_refl _) _).setCell (p := ⟨_, 1, none⟩) (Nat.le_refl _) _).drew
set_option maxRecDepth 100000 in
set_option maxHeartbeats 1600000 in
theorem rDecode_e2 (A : Option Addr) (c n : Nat) (x : List UInt8) (w : World) (hn : x.length = n) (hx : RdB w A c x) (hn2 : n ≤ 140737488355328) (z : Int) (q : Nat) (r1 : List UInt8) (h1 : rdNum 1099511627776 4 x = .ok (q, r1)) (h2 : rdNum 1099511627776 4 r1 = .error z) :
    Calls Try.prog 40 #[.slice A n c] w fun e w' => e = .returned (.tuple #[.agg #[.int .i64 0, .slice none 0 0], .int .i64 z]) ∧ Below w.heap.size w w' := by
  obtain ⟨R0, Z0, Y0, B0⟩ := rW_at w A c n
  have hst := St.of hx
  have ne10 : w.heap.size + 1 ≠ w.heap.size := by omega
  have ne12 : w.heap.size + 1 ≠ w.heap.size + 1 + 1 := by omega
  have ne02 : w.heap.size ≠ w.heap.size + 1 + 1 := by omega
  have hg1 : w.heap.size ≤ w.heap.size + 1 := Nat.le_succ _
  have hg2 : w.heap.size ≤ w.heap.size + 1 + 1 := Nat.le_succ_of_le (Nat.le_succ _)
  have hN1 := fun W (h : Rs (w.heap.size + 1) A c n 0 0 W) (hb : Below w.heap.size w W) => rNum_ok w (w.heap.size + 1) A c n 0 x hst hn hn2 (Nat.zero_le _) 1099511627776 1099511627776 rfl (Nat.le_refl _) 4 W h hb q r1 (by rw [List.drop_zero]; exact h1)
  have hz := rdNum_ne _ _ (by decide) _ _ h2
  have hN2 := fun p W (hp : p ≤ n) (hd : x.drop p = r1) (h : Rs (w.heap.size + 1) A c n p 0 W) (hb : Below w.heap.size w W) => rNum_err w (w.heap.size + 1) A c n p x hst hn hn2 hp 1099511627776 1099511627776 rfl (Nat.le_refl _) 4 W h hb z (by rw [hd]; exact h2)
  clear h1 h2 hn hx
  go_enter Try.func40, Try.ntmps40
  go_wp2_with (first | (go_at_call 54; (with_reducible refine (hN1 _ R0 B0).mono ?_); rintro e w2 ⟨rfl, ⟨p1, hp1, hd1, R2⟩, hg_2⟩; have Z2 := Z0.gb hg_2 ne10; have Y2 := Y0.gb hg_2 ne12; have B2 := B0.trans (hg_2.2 _ hg1 B0.size); obtain ⟨y20, y21, y22, y23⟩ := Y2.read; have Y3 := Y2.set0 (q : Int); have Z3 := Z2.away (j := 0) ne02 (.int .i64 (q : Int)); have R3 := R2.far (j := 0) ne12 (.int .i64 (q : Int)); have B3 := B2.setCell (p := ⟨w.heap.size + 1 + 1, 0, none⟩) hg2 (.int .i64 (q : Int))) | (go_at_call 54; (with_reducible refine (hN2 _ _ hp1 hd1 R3 B3).mono ?_); rintro e w4 ⟨rfl, R4, hg_4⟩; have Z4 := Z3.gb hg_4 ne10; have Y4 := Y3.gb hg_4 ne12; have B4 := B3.trans (hg_4.2 _ hg1 B3.size); obtain ⟨r40, r41, r42, r43, r44, r45⟩ := R4.read; obtain ⟨y40, y41, y42, y43⟩ := Y4.read))
  go_loopw [7] (fun i wr => i = .int .i64 0 ∧ (∃ p : Nat, Rs (w.heap.size + 1) A c n p z wr) ∧ Bx wr w.heap.size 0 (.slice none 0 0) 24 ∧ Below w.heap.size w wr) (fun _ _ => 0)
  case atStart => exact ⟨rfl, ⟨_, R4⟩, Z4, B4⟩
  case round =>
    obtain ⟨rfl, ⟨p, Rr⟩, Zr, Br⟩ := hrel
    obtain ⟨rq0, rq1, rq2, rq3, rq4, rq5⟩ := Rr.read
    obtain ⟨zq0, zq1, zq2, zq3⟩ := Zr.read
    go_wp2
    go_region
    all_goals go_wp2
    have V := (Zr.set0 0).set1 (.slice none 0 0)
    obtain ⟨v0, v1, _, _⟩ := V.read
    refine bodyPost_ret (v := .tuple #[.agg #[.int .i64 0, .slice none 0 0], .int .i64 z]) ?_ rfl ⟨rfl, ?_⟩
    · simp [results, Try.results40, go_sem, v0, v1]
    · exact ((Br.setCell (p := ⟨_, 0, none⟩) (Nat.le_refl _) _).setCell (p := ⟨_, 1, none⟩) (Nat.le_refl _) _).drew
set_option maxRecDepth 100000 in
set_option maxHeartbeats 1600000 in
theorem rDecode_e3 (A : Option Addr) (c n : Nat) (x : List UInt8) (w : World) (hn : x.length = n) (hx : RdB w A c x) (hn2 : n ≤ 140737488355328) (q N : Nat) (r1 r2 : List UInt8) (h1 : rdNum 1099511627776 4 x = .ok (q, r1)) (h2 : rdNum 1099511627776 4 r1 = .ok (N, r2)) (hN : 64 < N) :
    Calls Try.prog 40 #[.slice A n c] w fun e w' => e = .returned (.tuple #[.agg #[.int .i64 0, .slice none 0 0], .int .i64 3]) ∧ Below w.heap.size w w' := by
  obtain ⟨R0, Z0, Y0, B0⟩ := rW_at w A c n
  have hst := St.of hx
  have ne10 : w.heap.size + 1 ≠ w.heap.size := by omega
  have ne12 : w.heap.size + 1 ≠ w.heap.size + 1 + 1 := by omega
  have ne02 : w.heap.size ≠ w.heap.size + 1 + 1 := by omega
  have hg1 : w.heap.size ≤ w.heap.size + 1 := Nat.le_succ _
  have hg2 : w.heap.size ≤ w.heap.size + 1 + 1 := Nat.le_succ_of_le (Nat.le_succ _)
  have hN1 := fun W (h : Rs (w.heap.size + 1) A c n 0 0 W) (hb : Below w.heap.size w W) => rNum_ok w (w.heap.size + 1) A c n 0 x hst hn hn2 (Nat.zero_le _) 1099511627776 1099511627776 rfl (Nat.le_refl _) 4 W h hb q r1 (by rw [List.drop_zero]; exact h1)
  have hN2 := fun p W (hp : p ≤ n) (hd : x.drop p = r1) (h : Rs (w.heap.size + 1) A c n p 0 W) (hb : Below w.heap.size w W) => rNum_ok w (w.heap.size + 1) A c n p x hst hn hn2 hp 1099511627776 1099511627776 rfl (Nat.le_refl _) 4 W h hb N r2 (by rw [hd]; exact h2)
  have hni : 64 < (N : Int) := by omega
  have hni0 : 0 < (N : Int) := by omega
  clear h1 h2 hn hx
  go_enter Try.func40, Try.ntmps40
  go_wp2_with (first | (go_at_call 54; (with_reducible refine (hN1 _ R0 B0).mono ?_); rintro e w2 ⟨rfl, ⟨p1, hp1, hd1, R2⟩, hg_2⟩; have Z2 := Z0.gb hg_2 ne10; have Y2 := Y0.gb hg_2 ne12; have B2 := B0.trans (hg_2.2 _ hg1 B0.size); obtain ⟨y20, y21, y22, y23⟩ := Y2.read; have Y3 := Y2.set0 (q : Int); have Z3 := Z2.away (j := 0) ne02 (.int .i64 (q : Int)); have R3 := R2.far (j := 0) ne12 (.int .i64 (q : Int)); have B3 := B2.setCell (p := ⟨w.heap.size + 1 + 1, 0, none⟩) hg2 (.int .i64 (q : Int))) | (go_at_call 54; (with_reducible refine (hN2 _ _ hp1 hd1 R3 B3).mono ?_); rintro e w4 ⟨rfl, ⟨p2, hp2, hd2, R4⟩, hg_4⟩; have Z4 := Z3.gb hg_4 ne10; have Y4 := Y3.gb hg_4 ne12; have B4 := B3.trans (hg_4.2 _ hg1 B3.size); obtain ⟨r40, r41, r42, r43, r44, r45⟩ := R4.read; obtain ⟨y40, y41, y42, y43⟩ := Y4.read; have R5 := R4.er 3; have Z5 := Z4.away (j := 2) ne10.symm (.int .i64 3); have B5 := B4.setCell (p := ⟨w.heap.size + 1, 2, none⟩) hg1 (.int .i64 3)))
  go_loopw [7] (fun i wr => i = .int .i64 0 ∧ (∃ p : Nat, Rs (w.heap.size + 1) A c n p 3 wr) ∧ Bx wr w.heap.size 0 (.slice none 0 0) 24 ∧ Below w.heap.size w wr) (fun _ _ => 0)
  case atStart => exact ⟨rfl, ⟨_, R5⟩, Z5, B5⟩
  case round =>
    obtain ⟨rfl, ⟨p, Rr⟩, Zr, Br⟩ := hrel
    obtain ⟨rq0, rq1, rq2, rq3, rq4, rq5⟩ := Rr.read
    obtain ⟨zq0, zq1, zq2, zq3⟩ := Zr.read
    go_wp2
    go_region
    all_goals go_wp2
    have V := (Zr.set0 0).set1 (.slice none 0 0)
    obtain ⟨v0, v1, _, _⟩ := V.read
    refine bodyPost_ret (v := .tuple #[.agg #[.int .i64 0, .slice none 0 0], .int .i64 3]) ?_ rfl ⟨rfl, ?_⟩
    · simp [results, Try.results40, go_sem, v0, v1]
    · exact ((Br.setCell (p := ⟨_, 0, none⟩) (Nat.le_refl _) _).setCell (p := ⟨_, 1, none⟩) (Nat.le_refl _) _).drew
def MSt (A : Option Addr) (c n : Nat) (x : List UInt8) (w : World) (q N : Nat) (z : Int) (r2 : List UInt8) (i : Value) (wr : World) : Prop := (∃ (k p : Nat) (cs : List Chg) (v : Value), k ≤ N ∧ i = .int .i64 (k : Int) ∧ p ≤ n ∧ rdMany k r2 = .ok (cs, x.drop p) ∧ cs.length = k ∧ Rs (w.heap.size + 1) A c n p 0 wr ∧ Bx wr w.heap.size 0 (.slice none 0 0) 24 ∧ Bx wr (w.heap.size + 1 + 1) (q : Int) v 24 ∧ OwC wr w.heap.size v cs ∧ Below w.heap.size w wr) ∨ (∃ (k : Nat), k ≤ N ∧ i = .int .i64 (k : Int) ∧ (∃ p : Nat, Rs (w.heap.size + 1) A c n p z wr) ∧ Bx wr w.heap.size 0 (.slice none 0 0) 24 ∧ Below w.heap.size w wr)
set_option maxRecDepth 100000 in
set_option maxHeartbeats 6400000 in
theorem rDecode_em (A : Option Addr) (c n : Nat) (x : List UInt8) (w : World) (hn : x.length = n) (hx : RdB w A c x) (hn2 : n ≤ 140737488355328) (q N : Nat) (z : Int) (r1 r2 : List UInt8) (h1 : rdNum 1099511627776 4 x = .ok (q, r1)) (h2 : rdNum 1099511627776 4 r1 = .ok (N, r2)) (hN : N ≤ 64) (h3 : rdMany N r2 = .error z) :
    Calls Try.prog 40 #[.slice A n c] w fun e w' => e = .returned (.tuple #[.agg #[.int .i64 0, .slice none 0 0], .int .i64 z]) ∧ Below w.heap.size w w' := by
  obtain ⟨R0, Z0, Y0, B0⟩ := rW_at w A c n
  have hst := St.of hx
  have ne10 : w.heap.size + 1 ≠ w.heap.size := by omega
  have ne12 : w.heap.size + 1 ≠ w.heap.size + 1 + 1 := by omega
  have ne02 : w.heap.size ≠ w.heap.size + 1 + 1 := by omega
  have hg1 : w.heap.size ≤ w.heap.size + 1 := Nat.le_succ _
  have hg2 : w.heap.size ≤ w.heap.size + 1 + 1 := Nat.le_succ_of_le (Nat.le_succ _)
  have hN1 := fun W (h : Rs (w.heap.size + 1) A c n 0 0 W) (hb : Below w.heap.size w W) => rNum_ok w (w.heap.size + 1) A c n 0 x hst hn hn2 (Nat.zero_le _) 1099511627776 1099511627776 rfl (Nat.le_refl _) 4 W h hb q r1 (by rw [List.drop_zero]; exact h1)
  have hN2 := fun p W (hp : p ≤ n) (hd : x.drop p = r1) (h : Rs (w.heap.size + 1) A c n p 0 W) (hb : Below w.heap.size w W) => rNum_ok w (w.heap.size + 1) A c n p x hst hn hn2 hp 1099511627776 1099511627776 rfl (Nat.le_refl _) 4 W h hb N r2 (by rw [hd]; exact h2)
  have hz := rdMany_ne _ _ _ h3
  have hni : ¬ 64 < (N : Int) := by omega
  have hni2 : (N : Int) ≤ 64 := by omega
  have H3 := hide h3
  have HN0 := hide hn
  clear h1 h2 h3 hx hn
  go_enter Try.func40, Try.ntmps40
  go_wp2_with (first | (go_at_call 54; (with_reducible refine (hN1 _ R0 B0).mono ?_); rintro e w2 ⟨rfl, ⟨p1, hp1, hd1, R2⟩, hg_2⟩; have Z2 := Z0.gb hg_2 ne10; have Y2 := Y0.gb hg_2 ne12; have B2 := B0.trans (hg_2.2 _ hg1 B0.size); obtain ⟨y20, y21, y22, y23⟩ := Y2.read; have Y3 := Y2.set0 (q : Int); have Z3 := Z2.away (j := 0) ne02 (.int .i64 (q : Int)); have R3 := R2.far (j := 0) ne12 (.int .i64 (q : Int)); have B3 := B2.setCell (p := ⟨w.heap.size + 1 + 1, 0, none⟩) hg2 (.int .i64 (q : Int))) | (go_at_call 54; (with_reducible refine (hN2 _ _ hp1 hd1 R3 B3).mono ?_); rintro e w4 ⟨rfl, ⟨p2, hp2, hd2, R4⟩, hg_4⟩; have Z4 := Z3.gb hg_4 ne10; have Y4 := Y3.gb hg_4 ne12; have B4 := B3.trans (hg_4.2 _ hg1 B3.size); obtain ⟨r40, r41, r42, r43, r44, r45⟩ := R4.read; obtain ⟨y40, y41, y42, y43⟩ := Y4.read))
  go_loopw [7] (fun i wr => MSt A c n x w q N z r2 i wr) (fun i _ => N - (intOf i).toNat)
  case atStart => exact Or.inl ⟨0, p2, [], .slice none 0 0, by omega, rfl, hp2, by rw [hd2]; rfl, rfl, R4, Z4, Y4, Ow.zero _ _ _ _, B4⟩
  case round =>
    rcases hrel with ⟨k, p, cs, v, hk, rfl, hp, hrm, hcl, Rr, Zr, Yr, HOr, Br⟩ | ⟨k, hk, rfl, ⟨p, Rr⟩, Zr, Br⟩
    · obtain ⟨rr0, rr1, rr2, rr3, rr4, rr5⟩ := Rr.read
      by_cases hlt : k < N
      · have hlti : (k : Int) < (N : Int) := by omega
        have h40 : (cs.length + 1) * 40 ≤ 140737488355328 := by omega
        have H40 := hide h40
        have hcl2 : ∀ c' : Chg, (cs ++ [c']).length = k + 1 := fun c' => by rw [List.length_append, List.length_singleton, hcl]
        have HCL2 := hide hcl2
        rcases hrm2 : rdMany (k + 1) r2 with z' | ⟨ds, t⟩
        · have hch := rdMany_fails k r2 cs (x.drop p) hrm z' hrm2
          obtain rfl := rdMany_stop N r2 z H3.out k hlt cs (x.drop p) hrm z' hch
          rcases rdChange_errD _ _ hch with ⟨hxy, rfl⟩ | ⟨y, t0, hxy, hw⟩
          · have hpn : n - p < 1 := by
              have := congrArg List.length hxy
              rw [List.length_drop, HN0.out, List.length_nil] at this
              omega
            have hTk := fun W (h : Rs (w.heap.size + 1) A c n p 0 W) => rTake_err w (w.heap.size + 1) A c n p 1 1 rfl hp hn2 hpn (by omega) W h
            have hT1 := fun W (h : Rs (w.heap.size + 1) A c n p 8 W) => rText_off w (w.heap.size + 1) A c n p 8 (by decide) 65536 5 W h
            clear hrm hrm2 hch hcl hcl2 h40 hxy hpn
            go_wp2_with (first | (go_at_call 55; (with_reducible refine (hTk _ Rr).mono ?_); rintro e w5 ⟨rfl, R5, hg_5⟩; have Z5 := Zr.gb hg_5 ne10; have Y5 := Yr.gb hg_5 ne12; have B5 := Br.trans (hg_5.2 _ hg1 Br.size); have HOc5 := Ow.gb HOr Rr (by decide) hg_5; obtain ⟨r50, r51, r52, r53, r54, r55⟩ := R5.read; have b6 := below_alloc w5 (.cells #[.string ⟨#[]⟩, .bool false, .string ⟨#[]⟩] 35); have C6 : Cz (w5.alloc (.cells #[.string ⟨#[]⟩, .bool false, .string ⟨#[]⟩] 35)) w5.heap.size (.string ⟨#[]⟩) (.bool false) (.string ⟨#[]⟩) := heap_alloc_new w5 _; have R6 := R5.below b6; have Y6 := Y5.below b6; have Z6 := Z5.below b6; have B6 := B5.trans (b6.mono B5.size); have HOc6 := HOc5.below b6; have hl5 := R5.lt; have hl5' := Y5.lt; have hl5'' := Z5.lt; have n15 : w.heap.size + 1 ≠ w5.heap.size := Nat.ne_of_lt hl5; have n25 : w.heap.size + 1 + 1 ≠ w5.heap.size := Nat.ne_of_lt hl5'; have n05 : w.heap.size ≠ w5.heap.size := Nat.ne_of_lt hl5''; have hvl : (∀ k, Value.ownBlock v = some k → k < w5.heap.size) := (fun k hk => Nat.lt_of_lt_of_le (HOr.lt k hk) hg_5.1.size)) | (go_at_call 56; (with_reducible refine (hT1 _ R6).mono ?_); rintro e w7 ⟨rfl, R7, hg_7⟩; have C7 := C6.gb hg_7 n15; have Y7 := Y6.gb hg_7 ne12; have Z7 := Z6.gb hg_7 ne10; have B7 := B6.trans (hg_7.2 _ hg1 B6.size); have HOc7 := Ow.gb HOc6 R6 (by decide) hg_7; obtain ⟨c70, c71, c72, c73, c74, c75⟩ := C7.read; obtain ⟨r70, r71, r72, r73, r74, r75⟩ := R7.read; obtain ⟨y70, y71, y72, y73⟩ := Y7.read; have HOg_0 := OwC.farSet (j := 0) HOc7 hvl (.string ⟨#[]⟩); have Cg_0 := blk_set C7 0 (.string ⟨#[]⟩); have Rg_0 := R7.far (j := 0) n15 (.string ⟨#[]⟩); have Yg_0 := Y7.away (j := 0) n25 (.string ⟨#[]⟩); have Zg_0 := Z7.away (j := 0) n05 (.string ⟨#[]⟩); have Bg_0 := B7.setCell (p := ⟨w5.heap.size, 0, none⟩) (Nat.le_of_lt hl5'') (.string ⟨#[]⟩); have HOg_1 := OwC.farSet (j := 1) HOg_0 hvl (.bool false); have Cg_1 := blk_set Cg_0 1 (.bool false); have Rg_1 := Rg_0.far (j := 1) n15 (.bool false); have Yg_1 := Yg_0.away (j := 1) n25 (.bool false); have Zg_1 := Zg_0.away (j := 1) n05 (.bool false); have Bg_1 := Bg_0.setCell (p := ⟨w5.heap.size, 1, none⟩) (Nat.le_of_lt hl5'') (.bool false)) | (at_builtin; refine app_chg (w0 := w) (W := ((w7).setCell ⟨w5.heap.size, 0, none⟩ (.string ⟨#[]⟩)).setCell ⟨w5.heap.size, 1, none⟩ (.bool false)) w.heap.size rfl (.tmp 95) (.tmp 97) rfl v cs (ByteArray.empty, false, ByteArray.empty) (by rfl) (by show _ = Value.slice (some ⟨(((w7).setCell ⟨w5.heap.size, 0, none⟩ (.string ⟨#[]⟩)).setCell ⟨w5.heap.size, 1, none⟩ (.bool false)).heap.size, 0, none⟩) 1 1; rw [World.size_setCell, World.size_setCell]; rfl) HOg_1 Bg_1 Bg_1.size H40.out ?_; intro v10 w10 HO10 HB10 hg10 hat10; obtain ⟨A10, c10, hv10, hr10⟩ := HO10.rd; rw [HCL2.out] at hv10; subst hv10; have R10 := Rg_1.row HOg_1 hg10; have Y10 := Yg_1.row HOg_1 hg10; have Z10 := Zg_1.row HOg_1 hg10; obtain ⟨y100, y101, y102, y103⟩ := Y10.read))
            go_roundw
            case rel => exact Or.inr ⟨k + 1, hlt, by go_num, ⟨_, R10.far ne12 _⟩, Z10.away ne02 _, HB10.setCell (p := ⟨w.heap.size + 1 + 1, 1, none⟩) hg2 _⟩
            case measure => simp [intOf]; omega
          obtain ⟨hpn, hpd⟩ := drop_at x n p HN0.out y t0 hxy
          rcases hw with ⟨hy1, hy2, rfl⟩ | ⟨hy, hk1⟩ | ⟨rfl, key, t1, hk1, hv1⟩
          · have hTk := fun W (h : Rs (w.heap.size + 1) A c n p 0 W) (hb : Below w.heap.size w W) => rTake_ok w (w.heap.size + 1) A c n p 1 x hst HN0.out hn2 hp 1 rfl (by omega) W h hb hg1
            rw [hxy, List.take_succ_cons, List.take_zero] at hTk
            have hT1 := fun W (h : Rs (w.heap.size + 1) A c n (p + 1) 22 W) => rText_off w (w.heap.size + 1) A c n (p + 1) 22 (by decide) 65536 5 W h
            have hy256 := y.toNat_lt
            have k1 : ¬ (y.toNat : Int) = 1 := fun h => hy1 (UInt8.toNat_inj.1 (by show y.toNat = 1; omega))
            have k2 : ¬ (y.toNat : Int) = 2 := fun h => hy2 (UInt8.toNat_inj.1 (by show y.toNat = 2; omega))
            have k3 : ((y.toNat : Int) != 1) = true := by rw [bne_iff_ne]; exact k1
            have k4 : ((y.toNat : Int) != 2) = true := by rw [bne_iff_ne]; exact k2
            clear hrm hrm2 hch hcl hcl2 h40 hxy hpd hy1 hy2 hy256
            go_wp2_with (first | (go_at_call 55; (with_reducible refine (hTk _ Rr Br).mono ?_); rintro e w5 ⟨⟨v5, rfl, HO5⟩, R5, hg_5⟩; obtain ⟨A5, c5, hv5, hr5⟩ := HO5.rd; rw [List.length_singleton] at hv5; subst hv5; obtain ⟨ad, rfl, hc5⟩ := rdB_head hr5; have hadg : wr.heap.size ≤ ad.block := HO5.ge _ rfl; have hadl := World.block_lt_of_cell? w5 _ hc5; have Z5 := Zr.gb hg_5 ne10; have Y5 := Yr.gb hg_5 ne12; have B5 := Br.trans (hg_5.2 _ hg1 Br.size); have HOc5 := Ow.gb HOr Rr (by decide) hg_5; obtain ⟨r50, r51, r52, r53, r54, r55⟩ := R5.read; have hl5 := R5.lt; have hl5' := Y5.lt; have hl5'' := Z5.lt; have n15 : w.heap.size + 1 ≠ w5.heap.size := Nat.ne_of_lt hl5; have n25 : w.heap.size + 1 + 1 ≠ w5.heap.size := Nat.ne_of_lt hl5'; have n05 : w.heap.size ≠ w5.heap.size := Nat.ne_of_lt hl5''; have R5k := R5.er 22; have Y5k := Y5.away (j := 2) ne12.symm (.int .i64 22); have Z5k := Z5.away (j := 2) ne10.symm (.int .i64 22); have B5k := B5.setCell (p := ⟨w.heap.size + 1, 2, none⟩) hg1 (.int .i64 22); have HOk := Ow.setCell HOc5 R5 (by decide) 2 (.int .i64 22); have b6 := below_alloc (w5.setCell ⟨w.heap.size + 1, 2, none⟩ (.int .i64 22)) (.cells #[.string ⟨#[]⟩, .bool false, .string ⟨#[]⟩] 35); have C6 : Cz ((w5.setCell ⟨w.heap.size + 1, 2, none⟩ (.int .i64 22)).alloc (.cells #[.string ⟨#[]⟩, .bool false, .string ⟨#[]⟩] 35)) w5.heap.size (.string ⟨#[]⟩) (.bool false) (.string ⟨#[]⟩) := (by have h := heap_alloc_new (w5.setCell ⟨w.heap.size + 1, 2, none⟩ (.int .i64 22)) (.cells #[.string ⟨#[]⟩, .bool false, .string ⟨#[]⟩] 35); rw [World.size_setCell] at h; exact h); have R6 := R5k.below b6; have Y6 := Y5k.below b6; have Z6 := Z5k.below b6; have B6 := B5k.trans (b6.mono B5k.size); have HOc6 := HOk.below b6; have hvl : (∀ k, Value.ownBlock v = some k → k < w5.heap.size) := (fun k hk => Nat.lt_of_lt_of_le (HOr.lt k hk) hg_5.1.size)) | (go_at_call 56; (with_reducible refine (hT1 _ R6).mono ?_); rintro e w7 ⟨rfl, R7, hg_7⟩; have C7 := C6.gb hg_7 n15; have Y7 := Y6.gb hg_7 ne12; have Z7 := Z6.gb hg_7 ne10; have B7 := B6.trans (hg_7.2 _ hg1 B6.size); have HOc7 := Ow.gb HOc6 R6 (by decide) hg_7; obtain ⟨c70, c71, c72, c73, c74, c75⟩ := C7.read; obtain ⟨r70, r71, r72, r73, r74, r75⟩ := R7.read; obtain ⟨y70, y71, y72, y73⟩ := Y7.read; have HOg_0 := OwC.farSet (j := 0) HOc7 hvl (.string ⟨#[]⟩); have Cg_0 := blk_set C7 0 (.string ⟨#[]⟩); have Rg_0 := R7.far (j := 0) n15 (.string ⟨#[]⟩); have Yg_0 := Y7.away (j := 0) n25 (.string ⟨#[]⟩); have Zg_0 := Z7.away (j := 0) n05 (.string ⟨#[]⟩); have Bg_0 := B7.setCell (p := ⟨w5.heap.size, 0, none⟩) (Nat.le_of_lt hl5'') (.string ⟨#[]⟩); have HOg_1 := OwC.farSet (j := 1) HOg_0 hvl (.bool false); have Cg_1 := blk_set Cg_0 1 (.bool false); have Rg_1 := Rg_0.far (j := 1) n15 (.bool false); have Yg_1 := Yg_0.away (j := 1) n25 (.bool false); have Zg_1 := Zg_0.away (j := 1) n05 (.bool false); have Bg_1 := Bg_0.setCell (p := ⟨w5.heap.size, 1, none⟩) (Nat.le_of_lt hl5'') (.bool false)) | (at_builtin; refine app_chg (w0 := w) (W := ((w7).setCell ⟨w5.heap.size, 0, none⟩ (.string ⟨#[]⟩)).setCell ⟨w5.heap.size, 1, none⟩ (.bool false)) w.heap.size rfl (.tmp 95) (.tmp 97) rfl v cs (ByteArray.empty, false, ByteArray.empty) (by rfl) (by show _ = Value.slice (some ⟨(((w7).setCell ⟨w5.heap.size, 0, none⟩ (.string ⟨#[]⟩)).setCell ⟨w5.heap.size, 1, none⟩ (.bool false)).heap.size, 0, none⟩) 1 1; rw [World.size_setCell, World.size_setCell]; rfl) HOg_1 Bg_1 Bg_1.size H40.out ?_; intro v10 w10 HO10 HB10 hg10 hat10; obtain ⟨A10, c10, hv10, hr10⟩ := HO10.rd; rw [HCL2.out] at hv10; subst hv10; have R10 := Rg_1.row HOg_1 hg10; have Y10 := Yg_1.row HOg_1 hg10; have Z10 := Zg_1.row HOg_1 hg10; obtain ⟨y100, y101, y102, y103⟩ := Y10.read))
            go_roundw
            case rel => exact Or.inr ⟨k + 1, hlt, by go_num, ⟨_, R10.far ne12 _⟩, Z10.away ne02 _, HB10.setCell (p := ⟨w.heap.size + 1 + 1, 1, none⟩) hg2 _⟩
            case measure => simp [intOf]; omega
          · have hTk := fun W (h : Rs (w.heap.size + 1) A c n p 0 W) (hb : Below w.heap.size w W) => rTake_ok w (w.heap.size + 1) A c n p 1 x hst HN0.out hn2 hp 1 rfl (by omega) W h hb hg1
            rw [hxy, List.take_succ_cons, List.take_zero] at hTk
            have hT1 := fun W (h : Rs (w.heap.size + 1) A c n (p + 1) 0 W) (hb : Below w.heap.size w W) => rText_err w (w.heap.size + 1) A c n (p + 1) x hst HN0.out hn2 hpn W h hb hg1 z' (by rw [hpd]; exact hk1)
            clear hrm hrm2 hch hcl hcl2 h40 hxy hpd hk1
            rcases hy with rfl | rfl
            all_goals go_wp2_with (first | (go_at_call 55; (with_reducible refine (hTk _ Rr Br).mono ?_); rintro e w5 ⟨⟨v5, rfl, HO5⟩, R5, hg_5⟩; obtain ⟨A5, c5, hv5, hr5⟩ := HO5.rd; rw [List.length_singleton] at hv5; subst hv5; obtain ⟨ad, rfl, hc5⟩ := rdB_head hr5; have hadg : wr.heap.size ≤ ad.block := HO5.ge _ rfl; have hadl := World.block_lt_of_cell? w5 _ hc5; have Z5 := Zr.gb hg_5 ne10; have Y5 := Yr.gb hg_5 ne12; have B5 := Br.trans (hg_5.2 _ hg1 Br.size); have HOc5 := Ow.gb HOr Rr (by decide) hg_5; obtain ⟨r50, r51, r52, r53, r54, r55⟩ := R5.read; have b6 := below_alloc w5 (.cells #[.string ⟨#[]⟩, .bool false, .string ⟨#[]⟩] 35); have C6 : Cz (w5.alloc (.cells #[.string ⟨#[]⟩, .bool false, .string ⟨#[]⟩] 35)) w5.heap.size (.string ⟨#[]⟩) (.bool false) (.string ⟨#[]⟩) := heap_alloc_new w5 _; have R6 := R5.below b6; have Y6 := Y5.below b6; have Z6 := Z5.below b6; have B6 := B5.trans (b6.mono B5.size); have HOc6 := HOc5.below b6; have hc6 := (b6.cell hadl).trans hc5; have hl5 := R5.lt; have hl5' := Y5.lt; have hl5'' := Z5.lt; have n15 : w.heap.size + 1 ≠ w5.heap.size := Nat.ne_of_lt hl5; have n25 : w.heap.size + 1 + 1 ≠ w5.heap.size := Nat.ne_of_lt hl5'; have n05 : w.heap.size ≠ w5.heap.size := Nat.ne_of_lt hl5''; have hvl : (∀ k, Value.ownBlock v = some k → k < w5.heap.size) := (fun k hk => Nat.lt_of_lt_of_le (HOr.lt k hk) hg_5.1.size); have nad : ¬ ad.block = w5.heap.size := Nat.ne_of_lt hadl; have nad1 : some ad.block ≠ some (w.heap.size + 1) := (fun e => Nat.ne_of_gt (Nat.lt_of_lt_of_le Rr.lt hadg) (by injection e))) | (go_at_call 56; (with_reducible refine (hT1 _ R6 B6).mono ?_); rintro e w7 ⟨rfl, ⟨p7, R7⟩, hg_7⟩; have C7 := C6.gb hg_7 n15; have Y7 := Y6.gb hg_7 ne12; have Z7 := Z6.gb hg_7 ne10; have B7 := B6.trans (hg_7.2 _ hg1 B6.size); have HOc7 := Ow.gb HOc6 R6 (by decide) hg_7; obtain ⟨c70, c71, c72, c73, c74, c75⟩ := C7.read; obtain ⟨r70, r71, r72, r73, r74, r75⟩ := R7.read; obtain ⟨y70, y71, y72, y73⟩ := Y7.read; have HOg_0 := OwC.farSet (j := 0) HOc7 hvl (.string ⟨#[]⟩); have Cg_0 := blk_set C7 0 (.string ⟨#[]⟩); have Rg_0 := R7.far (j := 0) n15 (.string ⟨#[]⟩); have Yg_0 := Y7.away (j := 0) n25 (.string ⟨#[]⟩); have Zg_0 := Z7.away (j := 0) n05 (.string ⟨#[]⟩); have Bg_0 := B7.setCell (p := ⟨w5.heap.size, 0, none⟩) (Nat.le_of_lt hl5'') (.string ⟨#[]⟩); have HOg_1 := OwC.farSet (j := 1) HOg_0 hvl (.bool false); have Cg_1 := blk_set Cg_0 1 (.bool false); have Rg_1 := Rg_0.far (j := 1) n15 (.bool false); have Yg_1 := Yg_0.away (j := 1) n25 (.bool false); have Zg_1 := Zg_0.away (j := 1) n05 (.bool false); have Bg_1 := Bg_0.setCell (p := ⟨w5.heap.size, 1, none⟩) (Nat.le_of_lt hl5'') (.bool false)) | (at_builtin; refine app_chg (w0 := w) (W := ((w7).setCell ⟨w5.heap.size, 0, none⟩ (.string ⟨#[]⟩)).setCell ⟨w5.heap.size, 1, none⟩ (.bool false)) w.heap.size rfl (.tmp 95) (.tmp 97) rfl v cs (ByteArray.empty, false, ByteArray.empty) (by rfl) (by show _ = Value.slice (some ⟨(((w7).setCell ⟨w5.heap.size, 0, none⟩ (.string ⟨#[]⟩)).setCell ⟨w5.heap.size, 1, none⟩ (.bool false)).heap.size, 0, none⟩) 1 1; rw [World.size_setCell, World.size_setCell]; rfl) HOg_1 Bg_1 Bg_1.size H40.out ?_; intro v10 w10 HO10 HB10 hg10 hat10; obtain ⟨A10, c10, hv10, hr10⟩ := HO10.rd; rw [HCL2.out] at hv10; subst hv10; have R10 := Rg_1.row HOg_1 hg10; have Y10 := Yg_1.row HOg_1 hg10; have Z10 := Zg_1.row HOg_1 hg10; obtain ⟨y100, y101, y102, y103⟩ := Y10.read))
            all_goals go_roundw
            case rel => exact Or.inr ⟨k + 1, hlt, by go_num, ⟨_, R10.far ne12 _⟩, Z10.away ne02 _, HB10.setCell (p := ⟨w.heap.size + 1 + 1, 1, none⟩) hg2 _⟩
            case measure => simp [intOf]; omega
            case rel => exact Or.inr ⟨k + 1, hlt, by go_num, ⟨_, R10.far ne12 _⟩, Z10.away ne02 _, HB10.setCell (p := ⟨w.heap.size + 1 + 1, 1, none⟩) hg2 _⟩
            case measure => simp [intOf]; omega
          · have hTk := fun W (h : Rs (w.heap.size + 1) A c n p 0 W) (hb : Below w.heap.size w W) => rTake_ok w (w.heap.size + 1) A c n p 1 x hst HN0.out hn2 hp 1 rfl (by omega) W h hb hg1
            rw [hxy, List.take_succ_cons, List.take_zero] at hTk
            have hT1 := fun W (h : Rs (w.heap.size + 1) A c n (p + 1) 0 W) (hb : Below w.heap.size w W) => rText_ok w (w.heap.size + 1) A c n (p + 1) x hst HN0.out hn2 hpn W h hb hg1 key t1 (by rw [hpd]; exact hk1)
            have hT2 := fun p7 W (hp7 : p7 ≤ n) (hd7 : x.drop p7 = t1) (h : Rs (w.heap.size + 1) A c n p7 0 W) (hb : Below w.heap.size w W) => rText_err w (w.heap.size + 1) A c n p7 x hst HN0.out hn2 hp7 W h hb hg1 z' (by rw [hd7]; exact hv1)
            clear hrm hrm2 hch hcl hcl2 h40 hxy hpd hk1 hv1
            go_wp2_with (first | (go_at_call 55; (with_reducible refine (hTk _ Rr Br).mono ?_); rintro e w5 ⟨⟨v5, rfl, HO5⟩, R5, hg_5⟩; obtain ⟨A5, c5, hv5, hr5⟩ := HO5.rd; rw [List.length_singleton] at hv5; subst hv5; obtain ⟨ad, rfl, hc5⟩ := rdB_head hr5; have hadg : wr.heap.size ≤ ad.block := HO5.ge _ rfl; have hadl := World.block_lt_of_cell? w5 _ hc5; have Z5 := Zr.gb hg_5 ne10; have Y5 := Yr.gb hg_5 ne12; have B5 := Br.trans (hg_5.2 _ hg1 Br.size); have HOc5 := Ow.gb HOr Rr (by decide) hg_5; obtain ⟨r50, r51, r52, r53, r54, r55⟩ := R5.read; have b6 := below_alloc w5 (.cells #[.string ⟨#[]⟩, .bool false, .string ⟨#[]⟩] 35); have C6 : Cz (w5.alloc (.cells #[.string ⟨#[]⟩, .bool false, .string ⟨#[]⟩] 35)) w5.heap.size (.string ⟨#[]⟩) (.bool false) (.string ⟨#[]⟩) := heap_alloc_new w5 _; have R6 := R5.below b6; have Y6 := Y5.below b6; have Z6 := Z5.below b6; have B6 := B5.trans (b6.mono B5.size); have HOc6 := HOc5.below b6; have hc6 := (b6.cell hadl).trans hc5; have hl5 := R5.lt; have hl5' := Y5.lt; have hl5'' := Z5.lt; have n15 : w.heap.size + 1 ≠ w5.heap.size := Nat.ne_of_lt hl5; have n25 : w.heap.size + 1 + 1 ≠ w5.heap.size := Nat.ne_of_lt hl5'; have n05 : w.heap.size ≠ w5.heap.size := Nat.ne_of_lt hl5''; have hvl : (∀ k, Value.ownBlock v = some k → k < w5.heap.size) := (fun k hk => Nat.lt_of_lt_of_le (HOr.lt k hk) hg_5.1.size); have nad : ¬ ad.block = w5.heap.size := Nat.ne_of_lt hadl; have nad1 : some ad.block ≠ some (w.heap.size + 1) := (fun e => Nat.ne_of_gt (Nat.lt_of_lt_of_le Rr.lt hadg) (by injection e))) | (go_at_call 56; (with_reducible refine (hT1 _ R6 B6).mono ?_); rintro e w7 ⟨rfl, ⟨p7, hp7, hd7, R7⟩, hg_7⟩; have C7 := C6.gb hg_7 n15; have Y7 := Y6.gb hg_7 ne12; have Z7 := Z6.gb hg_7 ne10; have B7 := B6.trans (hg_7.2 _ hg1 B6.size); have HOc7 := Ow.gb HOc6 R6 (by decide) hg_7; have hc7 := (hg_7.1.cell_far ad (Nat.lt_of_lt_of_le hadl b6.size) nad1).trans hc6; have hc8 := (((Gb.refl w5.heap.size w7 w7).set_ 0 (.string key)).1.cell_far ad (Nat.lt_of_lt_of_le (Nat.lt_of_lt_of_le hadl b6.size) hg_7.1.size) (fun e => nad (by injection e))).trans hc7; obtain ⟨c70, c71, c72, c73, c74, c75⟩ := C7.read; obtain ⟨r70, r71, r72, r73, r74, r75⟩ := R7.read; obtain ⟨y70, y71, y72, y73⟩ := Y7.read; have HOg_0 := OwC.farSet (j := 0) HOc7 hvl (.string key); have Cg_0 := blk_set C7 0 (.string key); have Rg_0 := R7.far (j := 0) n15 (.string key); have Yg_0 := Y7.away (j := 0) n25 (.string key); have Zg_0 := Z7.away (j := 0) n05 (.string key); have Bg_0 := B7.setCell (p := ⟨w5.heap.size, 0, none⟩) (Nat.le_of_lt hl5'') (.string key); have HOg_1 := OwC.farSet (j := 1) HOg_0 hvl (.bool false); have Cg_1 := blk_set Cg_0 1 (.bool false); have Rg_1 := Rg_0.far (j := 1) n15 (.bool false); have Yg_1 := Yg_0.away (j := 1) n25 (.bool false); have Zg_1 := Zg_0.away (j := 1) n05 (.bool false); have Bg_1 := Bg_0.setCell (p := ⟨w5.heap.size, 1, none⟩) (Nat.le_of_lt hl5'') (.bool false)) | (go_at_call 56; (with_reducible refine (hT2 _ _ hp7 hd7 Rg_1 Bg_1).mono ?_); rintro e w9 ⟨rfl, ⟨p9, R9⟩, hg_9⟩; have C9 := Cz.gb (x := .string key) (y := .bool false) (z := .string ⟨#[]⟩) Cg_1 hg_9 n15; have Y9 := Yg_1.gb hg_9 ne12; have Z9 := Zg_1.gb hg_9 ne10; have B9 := Bg_1.trans (hg_9.2 _ hg1 Bg_1.size); have HOc9 := Ow.gb HOg_1 Rg_1 (by decide) hg_9; obtain ⟨c90, c91, c92, c93, c94, c95⟩ := C9.read; obtain ⟨y90, y91, y92, y93⟩ := Y9.read; have HOh_0 := OwC.farSet (j := 2) HOc9 hvl (.string ⟨#[]⟩); have Ch_0 := blk_set C9 2 (.string ⟨#[]⟩); have Rh_0 := R9.far (j := 2) n15 (.string ⟨#[]⟩); have Yh_0 := Y9.away (j := 2) n25 (.string ⟨#[]⟩); have Zh_0 := Z9.away (j := 2) n05 (.string ⟨#[]⟩); have Bh_0 := B9.setCell (p := ⟨w5.heap.size, 2, none⟩) (Nat.le_of_lt hl5'') (.string ⟨#[]⟩)) | (at_builtin; refine app_chg (w0 := w) (W := (w9).setCell ⟨w5.heap.size, 2, none⟩ (.string ⟨#[]⟩)) w.heap.size rfl (.tmp 95) (.tmp 97) rfl v cs (key, false, ByteArray.empty) (by rfl) (by show _ = Value.slice (some ⟨((w9).setCell ⟨w5.heap.size, 2, none⟩ (.string ⟨#[]⟩)).heap.size, 0, none⟩) 1 1; rw [World.size_setCell]; rfl) HOh_0 Bh_0 Bh_0.size H40.out ?_; intro v10 w10 HO10 HB10 hg10 hat10; obtain ⟨A10, c10, hv10, hr10⟩ := HO10.rd; rw [HCL2.out] at hv10; subst hv10; have R10 := Rh_0.row HOh_0 hg10; have Y10 := Yh_0.row HOh_0 hg10; have Z10 := Zh_0.row HOh_0 hg10; obtain ⟨y100, y101, y102, y103⟩ := Y10.read))
            go_roundw
            case rel => exact Or.inr ⟨k + 1, hlt, by go_num, ⟨_, R10.far ne12 _⟩, Z10.away ne02 _, HB10.setCell (p := ⟨w.heap.size + 1 + 1, 1, none⟩) hg2 _⟩
            case measure => simp [intOf]; omega
        · clear h40 hcl2
          obtain ⟨cc, hch, rfl⟩ := rdMany_step k r2 cs ds (x.drop p) t hrm hrm2
          obtain ⟨y, t0, key, t1, hxy, hk1, hcase⟩ := rdChange_okD _ _ _ hch
          obtain ⟨hpn, hpd⟩ := drop_at x n p HN0.out y t0 hxy
          have hTk := fun W (h : Rs (w.heap.size + 1) A c n p 0 W) (hb : Below w.heap.size w W) => rTake_ok w (w.heap.size + 1) A c n p 1 x hst HN0.out hn2 hp 1 rfl (by omega) W h hb hg1
          rw [hxy, List.take_succ_cons, List.take_zero] at hTk
          have hT1 := fun W (h : Rs (w.heap.size + 1) A c n (p + 1) 0 W) (hb : Below w.heap.size w W) => rText_ok w (w.heap.size + 1) A c n (p + 1) x hst HN0.out hn2 hpn W h hb hg1 key t1 (by rw [hpd]; exact hk1)
          have h40 : (cs.length + 1) * 40 ≤ 140737488355328 := by omega
          have H40 := hide h40
          have HRM := hide hrm2
          have HCL := hide hcl
          have hcl2 : ∀ c' : Chg, (cs ++ [c']).length = k + 1 := fun c' => by rw [List.length_append, List.length_singleton, hcl]
          have HCL2 := hide hcl2
          rcases hcase with ⟨rfl, rfl, rfl⟩ | ⟨rfl, val, hv1, rfl⟩
          · clear hrm hrm2 hch hcl hcl2 h40 hk1 hpd hxy
            go_wp2_with (first | (go_at_call 55; (with_reducible refine (hTk _ Rr Br).mono ?_); rintro e w5 ⟨⟨v5, rfl, HO5⟩, R5, hg_5⟩; obtain ⟨A5, c5, hv5, hr5⟩ := HO5.rd; rw [List.length_singleton] at hv5; subst hv5; obtain ⟨ad, rfl, hc5⟩ := rdB_head hr5; have hadg : wr.heap.size ≤ ad.block := HO5.ge _ rfl; have hadl := World.block_lt_of_cell? w5 _ hc5; have Z5 := Zr.gb hg_5 ne10; have Y5 := Yr.gb hg_5 ne12; have B5 := Br.trans (hg_5.2 _ hg1 Br.size); have HOc5 := Ow.gb HOr Rr (by decide) hg_5; obtain ⟨r50, r51, r52, r53, r54, r55⟩ := R5.read; have b6 := below_alloc w5 (.cells #[.string ⟨#[]⟩, .bool false, .string ⟨#[]⟩] 35); have C6 : Cz (w5.alloc (.cells #[.string ⟨#[]⟩, .bool false, .string ⟨#[]⟩] 35)) w5.heap.size (.string ⟨#[]⟩) (.bool false) (.string ⟨#[]⟩) := heap_alloc_new w5 _; have R6 := R5.below b6; have Y6 := Y5.below b6; have Z6 := Z5.below b6; have B6 := B5.trans (b6.mono B5.size); have HOc6 := HOc5.below b6; have hc6 := (b6.cell hadl).trans hc5; have hl5 := R5.lt; have hl5' := Y5.lt; have hl5'' := Z5.lt; have n15 : w.heap.size + 1 ≠ w5.heap.size := Nat.ne_of_lt hl5; have n25 : w.heap.size + 1 + 1 ≠ w5.heap.size := Nat.ne_of_lt hl5'; have n05 : w.heap.size ≠ w5.heap.size := Nat.ne_of_lt hl5''; have hvl : (∀ k, Value.ownBlock v = some k → k < w5.heap.size) := (fun k hk => Nat.lt_of_lt_of_le (HOr.lt k hk) hg_5.1.size); have nad : ¬ ad.block = w5.heap.size := Nat.ne_of_lt hadl; have nad1 : some ad.block ≠ some (w.heap.size + 1) := (fun e => Nat.ne_of_gt (Nat.lt_of_lt_of_le Rr.lt hadg) (by injection e))) | (go_at_call 56; (with_reducible refine (hT1 _ R6 B6).mono ?_); rintro e w7 ⟨rfl, ⟨p7, hp7, hd7, R7⟩, hg_7⟩; have C7 := C6.gb hg_7 n15; have Y7 := Y6.gb hg_7 ne12; have Z7 := Z6.gb hg_7 ne10; have B7 := B6.trans (hg_7.2 _ hg1 B6.size); have HOc7 := Ow.gb HOc6 R6 (by decide) hg_7; have hc7 := (hg_7.1.cell_far ad (Nat.lt_of_lt_of_le hadl b6.size) nad1).trans hc6; have hc8 := (((Gb.refl w5.heap.size w7 w7).set_ 0 (.string key)).1.cell_far ad (Nat.lt_of_lt_of_le (Nat.lt_of_lt_of_le hadl b6.size) hg_7.1.size) (fun e => nad (by injection e))).trans hc7; obtain ⟨c70, c71, c72, c73, c74, c75⟩ := C7.read; obtain ⟨r70, r71, r72, r73, r74, r75⟩ := R7.read; obtain ⟨y70, y71, y72, y73⟩ := Y7.read; have HOg_0 := OwC.farSet (j := 0) HOc7 hvl (.string key); have Cg_0 := blk_set C7 0 (.string key); have Rg_0 := R7.far (j := 0) n15 (.string key); have Yg_0 := Y7.away (j := 0) n25 (.string key); have Zg_0 := Z7.away (j := 0) n05 (.string key); have Bg_0 := B7.setCell (p := ⟨w5.heap.size, 0, none⟩) (Nat.le_of_lt hl5'') (.string key); have HOg_1 := OwC.farSet (j := 1) HOg_0 hvl (.bool true); have Cg_1 := blk_set Cg_0 1 (.bool true); have Rg_1 := Rg_0.far (j := 1) n15 (.bool true); have Yg_1 := Yg_0.away (j := 1) n25 (.bool true); have Zg_1 := Zg_0.away (j := 1) n05 (.bool true); have Bg_1 := Bg_0.setCell (p := ⟨w5.heap.size, 1, none⟩) (Nat.le_of_lt hl5'') (.bool true)) | (at_builtin; refine app_chg (w0 := w) (W := ((w7).setCell ⟨w5.heap.size, 0, none⟩ (.string key)).setCell ⟨w5.heap.size, 1, none⟩ (.bool true)) w.heap.size rfl (.tmp 95) (.tmp 97) rfl v cs (key, true, ByteArray.empty) (by rfl) (by show _ = Value.slice (some ⟨(((w7).setCell ⟨w5.heap.size, 0, none⟩ (.string key)).setCell ⟨w5.heap.size, 1, none⟩ (.bool true)).heap.size, 0, none⟩) 1 1; rw [World.size_setCell, World.size_setCell]; rfl) HOg_1 Bg_1 Bg_1.size H40.out ?_; intro v10 w10 HO10 HB10 hg10 hat10; obtain ⟨A10, c10, hv10, hr10⟩ := HO10.rd; rw [HCL2.out] at hv10; subst hv10; have R10 := Rg_1.row HOg_1 hg10; have Y10 := Yg_1.row HOg_1 hg10; have Z10 := Zg_1.row HOg_1 hg10; obtain ⟨y100, y101, y102, y103⟩ := Y10.read))
            go_roundw
            case rel => exact Or.inl ⟨k + 1, p7, _, _, hlt, by go_num, hp7, by rw [hd7]; exact HRM.out, by rw [List.length_append, List.length_singleton, HCL.out], R10.far ne12 _, Z10.away ne02 _, Y10.set1 _, Ow.setCell HO10 Y10 (by decide) 1 _, HB10.setCell (p := ⟨w.heap.size + 1 + 1, 1, none⟩) hg2 _⟩
            case measure => simp [intOf]; omega
          · have hT2 := fun p7 W (hp7 : p7 ≤ n) (hd7 : x.drop p7 = t1) (h : Rs (w.heap.size + 1) A c n p7 0 W) (hb : Below w.heap.size w W) => rText_ok w (w.heap.size + 1) A c n p7 x hst HN0.out hn2 hp7 W h hb hg1 val t (by rw [hd7]; exact hv1)
            clear hrm hrm2 hch hcl hcl2 h40 hk1 hpd hxy hv1
            go_wp2_with (first | (go_at_call 55; (with_reducible refine (hTk _ Rr Br).mono ?_); rintro e w5 ⟨⟨v5, rfl, HO5⟩, R5, hg_5⟩; obtain ⟨A5, c5, hv5, hr5⟩ := HO5.rd; rw [List.length_singleton] at hv5; subst hv5; obtain ⟨ad, rfl, hc5⟩ := rdB_head hr5; have hadg : wr.heap.size ≤ ad.block := HO5.ge _ rfl; have hadl := World.block_lt_of_cell? w5 _ hc5; have Z5 := Zr.gb hg_5 ne10; have Y5 := Yr.gb hg_5 ne12; have B5 := Br.trans (hg_5.2 _ hg1 Br.size); have HOc5 := Ow.gb HOr Rr (by decide) hg_5; obtain ⟨r50, r51, r52, r53, r54, r55⟩ := R5.read; have b6 := below_alloc w5 (.cells #[.string ⟨#[]⟩, .bool false, .string ⟨#[]⟩] 35); have C6 : Cz (w5.alloc (.cells #[.string ⟨#[]⟩, .bool false, .string ⟨#[]⟩] 35)) w5.heap.size (.string ⟨#[]⟩) (.bool false) (.string ⟨#[]⟩) := heap_alloc_new w5 _; have R6 := R5.below b6; have Y6 := Y5.below b6; have Z6 := Z5.below b6; have B6 := B5.trans (b6.mono B5.size); have HOc6 := HOc5.below b6; have hc6 := (b6.cell hadl).trans hc5; have hl5 := R5.lt; have hl5' := Y5.lt; have hl5'' := Z5.lt; have n15 : w.heap.size + 1 ≠ w5.heap.size := Nat.ne_of_lt hl5; have n25 : w.heap.size + 1 + 1 ≠ w5.heap.size := Nat.ne_of_lt hl5'; have n05 : w.heap.size ≠ w5.heap.size := Nat.ne_of_lt hl5''; have hvl : (∀ k, Value.ownBlock v = some k → k < w5.heap.size) := (fun k hk => Nat.lt_of_lt_of_le (HOr.lt k hk) hg_5.1.size); have nad : ¬ ad.block = w5.heap.size := Nat.ne_of_lt hadl; have nad1 : some ad.block ≠ some (w.heap.size + 1) := (fun e => Nat.ne_of_gt (Nat.lt_of_lt_of_le Rr.lt hadg) (by injection e))) | (go_at_call 56; (with_reducible refine (hT1 _ R6 B6).mono ?_); rintro e w7 ⟨rfl, ⟨p7, hp7, hd7, R7⟩, hg_7⟩; have C7 := C6.gb hg_7 n15; have Y7 := Y6.gb hg_7 ne12; have Z7 := Z6.gb hg_7 ne10; have B7 := B6.trans (hg_7.2 _ hg1 B6.size); have HOc7 := Ow.gb HOc6 R6 (by decide) hg_7; have hc7 := (hg_7.1.cell_far ad (Nat.lt_of_lt_of_le hadl b6.size) nad1).trans hc6; have hc8 := (((Gb.refl w5.heap.size w7 w7).set_ 0 (.string key)).1.cell_far ad (Nat.lt_of_lt_of_le (Nat.lt_of_lt_of_le hadl b6.size) hg_7.1.size) (fun e => nad (by injection e))).trans hc7; obtain ⟨c70, c71, c72, c73, c74, c75⟩ := C7.read; obtain ⟨r70, r71, r72, r73, r74, r75⟩ := R7.read; obtain ⟨y70, y71, y72, y73⟩ := Y7.read; have HOg_0 := OwC.farSet (j := 0) HOc7 hvl (.string key); have Cg_0 := blk_set C7 0 (.string key); have Rg_0 := R7.far (j := 0) n15 (.string key); have Yg_0 := Y7.away (j := 0) n25 (.string key); have Zg_0 := Z7.away (j := 0) n05 (.string key); have Bg_0 := B7.setCell (p := ⟨w5.heap.size, 0, none⟩) (Nat.le_of_lt hl5'') (.string key); have HOg_1 := OwC.farSet (j := 1) HOg_0 hvl (.bool false); have Cg_1 := blk_set Cg_0 1 (.bool false); have Rg_1 := Rg_0.far (j := 1) n15 (.bool false); have Yg_1 := Yg_0.away (j := 1) n25 (.bool false); have Zg_1 := Zg_0.away (j := 1) n05 (.bool false); have Bg_1 := Bg_0.setCell (p := ⟨w5.heap.size, 1, none⟩) (Nat.le_of_lt hl5'') (.bool false)) | (go_at_call 56; (with_reducible refine (hT2 _ _ hp7 hd7 Rg_1 Bg_1).mono ?_); rintro e w9 ⟨rfl, ⟨p9, hp9, hd9, R9⟩, hg_9⟩; have C9 := Cz.gb (x := .string key) (y := .bool false) (z := .string ⟨#[]⟩) Cg_1 hg_9 n15; have Y9 := Yg_1.gb hg_9 ne12; have Z9 := Zg_1.gb hg_9 ne10; have B9 := Bg_1.trans (hg_9.2 _ hg1 Bg_1.size); have HOc9 := Ow.gb HOg_1 Rg_1 (by decide) hg_9; obtain ⟨c90, c91, c92, c93, c94, c95⟩ := C9.read; obtain ⟨y90, y91, y92, y93⟩ := Y9.read; have HOh_0 := OwC.farSet (j := 2) HOc9 hvl (.string val); have Ch_0 := blk_set C9 2 (.string val); have Rh_0 := R9.far (j := 2) n15 (.string val); have Yh_0 := Y9.away (j := 2) n25 (.string val); have Zh_0 := Z9.away (j := 2) n05 (.string val); have Bh_0 := B9.setCell (p := ⟨w5.heap.size, 2, none⟩) (Nat.le_of_lt hl5'') (.string val)) | (at_builtin; refine app_chg (w0 := w) (W := (w9).setCell ⟨w5.heap.size, 2, none⟩ (.string val)) w.heap.size rfl (.tmp 95) (.tmp 97) rfl v cs (key, false, val) (by rfl) (by show _ = Value.slice (some ⟨((w9).setCell ⟨w5.heap.size, 2, none⟩ (.string val)).heap.size, 0, none⟩) 1 1; rw [World.size_setCell]; rfl) HOh_0 Bh_0 Bh_0.size H40.out ?_; intro v10 w10 HO10 HB10 hg10 hat10; obtain ⟨A10, c10, hv10, hr10⟩ := HO10.rd; rw [HCL2.out] at hv10; subst hv10; have R10 := Rh_0.row HOh_0 hg10; have Y10 := Yh_0.row HOh_0 hg10; have Z10 := Zh_0.row HOh_0 hg10; obtain ⟨y100, y101, y102, y103⟩ := Y10.read))
            go_roundw
            case rel => exact Or.inl ⟨k + 1, p9, _, _, hlt, by go_num, hp9, by rw [hd9]; exact HRM.out, by rw [List.length_append, List.length_singleton, HCL.out], R10.far ne12 _, Z10.away ne02 _, Y10.set1 _, Ow.setCell HO10 Y10 (by decide) 1 _, HB10.setCell (p := ⟨w.heap.size + 1 + 1, 1, none⟩) hg2 _⟩
            case measure => simp [intOf]; omega
      · obtain rfl : k = N := by omega
        have := H3.out
        rw [hrm] at this
        cases this
    · by_cases hlt : (k : Int) < (N : Int)
      · obtain ⟨rq0, rq1, rq2, rq3, rq4, rq5⟩ := Rr.read
        obtain ⟨zq0, zq1, zq2, zq3⟩ := Zr.read
        go_wp2
        go_region
        all_goals go_wp2
        have V := (Zr.set0 0).set1 (.slice none 0 0)
        obtain ⟨v0, v1, _, _⟩ := V.read
        refine bodyPost_ret (v := .tuple #[.agg #[.int .i64 0, .slice none 0 0], .int .i64 z]) ?_ rfl ⟨rfl, ?_⟩
        · simp [results, Try.results40, go_sem, v0, v1]
        · exact ((Br.setCell (p := ⟨_, 0, none⟩) (Nat.le_refl _) _).setCell (p := ⟨_, 1, none⟩) (Nat.le_refl _) _).drew
      · obtain ⟨rq0, rq1, rq2, rq3, rq4, rq5⟩ := Rr.read
        obtain ⟨zq0, zq1, zq2, zq3⟩ := Zr.read
        go_wp2
        go_region
        all_goals go_wp2
        have V := (Zr.set0 0).set1 (.slice none 0 0)
        obtain ⟨v0, v1, _, _⟩ := V.read
        refine bodyPost_ret (v := .tuple #[.agg #[.int .i64 0, .slice none 0 0], .int .i64 z]) ?_ rfl ⟨rfl, ?_⟩
        · simp [results, Try.results40, go_sem, v0, v1]
        · exact ((Br.setCell (p := ⟨_, 0, none⟩) (Nat.le_refl _) _).setCell (p := ⟨_, 1, none⟩) (Nat.le_refl _) _).drew
theorem rDecode_err (A : Option Addr) (c n : Nat) (x : List UInt8) (w : World) (hn : x.length = n) (hx : RdB w A c x) (hn2 : n ≤ 140737488355328) (z : Int) (hr : rdBatch x = .error z) :
    Calls Try.prog 40 #[.slice A n c] w fun e w' => e = .returned (.tuple #[.agg #[.int .i64 0, .slice none 0 0], .int .i64 z]) ∧ Below w.heap.size w w' := by
  unfold rdBatch at hr
  split at hr
  · next z1 h1 => injection hr with hr; subst hr; exact rDecode_e1 A c n x w hn hx hn2 _ h1
  · next q r1 h1 =>
    split at hr
    · next z1 h2 => injection hr with hr; subst hr; exact rDecode_e2 A c n x w hn hx hn2 _ q r1 h1 h2
    · next N r2 h2 =>
      split at hr
      · next h3 => injection hr with hr; subst hr; exact rDecode_e3 A c n x w hn hx hn2 q N r1 r2 h1 h2 h3
      · next h3 =>
        split at hr
        · next z1 h4 => injection hr with hr; subst hr; exact rDecode_em A c n x w hn hx hn2 q N _ r1 r2 h1 h2 (by omega) h4
        · next cs r3 h4 =>
          split at hr
          · next h5 => injection hr with hr; subst hr; exact rDecode_tail A c n x w hn hx hn2 q N r1 r2 r3 cs h1 h2 (by omega) h4 h5
          · cases hr
theorem rDecode_any (A : Option Addr) (c n : Nat) (x : List UInt8) (w : World) (hn : x.length = n) (hx : RdB w A c x) (hn2 : n ≤ 140737488355328) :
    Calls Try.prog 40 #[.slice A n c] w fun e w' => (∃ A' c', e = .returned (.tuple #[.agg #[.int .i64 (decQ x), .slice A' (decL x).length c'], .int .i64 (decE x)]) ∧ OwC w' w.heap.size (.slice A' (decL x).length c') (decL x)) ∧ Below w.heap.size w w' := by
  cases hr : rdBatch x with
  | error z =>
    have hz := rdBatch_ne x z hr
    have e1 : decE x = z := by rw [decE, hr]
    have e2 : decQ x = 0 := by rw [decQ, if_neg (by rw [e1]; exact hz)]
    have e3 : decL x = [] := by rw [decL, if_neg (by rw [e1]; exact hz)]
    refine (rDecode_err A c n x w hn hx hn2 z hr).mono ?_
    rintro e w' ⟨rfl, hb⟩
    rw [e1, e2, e3]
    exact ⟨⟨none, 0, rfl, Ow.zero _ _ _ _⟩, hb⟩
  | ok p =>
    obtain ⟨q, cs⟩ := p
    have hr' := hr
    unfold rdBatch at hr'
    split at hr'
    · cases hr'
    · next q r1 h1 =>
      split at hr'
      · cases hr'
      · next N r2 h2 =>
        split at hr'
        · cases hr'
        · next h3 =>
          split at hr'
          · cases hr'
          · next cs r3 h4 =>
            split at hr'
            · cases hr'
            · next h5 =>
              injection hr' with hr'
              injection hr' with q1 q2
              subst q1 q2
              by_cases hz : chkB (q : Int) cs = 0
              · have e1 : decE x = 0 := by rw [decE, hr]; exact hz
                have e2 : decQ x = q := by rw [decQ, if_pos e1, hr]
                have e3 : decL x = cs := by rw [decL, if_pos e1, hr]
                rw [e1, e2, e3]
                exact rDecode_good A c n x w hn hx hn2 q N r1 r2 r3 cs h1 h2 (by omega) h4 (by omega) hz
              · have e1 : decE x = chkB (q : Int) cs := by rw [decE, hr]
                have e2 : decQ x = 0 := by rw [decQ, if_neg (by rw [e1]; exact hz)]
                have e3 : decL x = [] := by rw [decL, if_neg (by rw [e1]; exact hz)]
                refine (rDecode_bad A c n x w hn hx hn2 q N r1 r2 r3 cs h1 h2 (by omega) h4 (by omega) _ rfl hz).mono ?_
                rintro e w' ⟨rfl, hb⟩
                rw [e1, e2, e3]
                exact ⟨⟨none, 0, rfl, Ow.zero _ _ _ _⟩, hb⟩
end Go.Proofs.Ytebefonohemlfaa
end

section
/- Wal: the walk of the reference's Replay. -/
namespace Go.Proofs.Ytebefonohemlfaa
open Go.RowKit Go.Proofs.YtebefonohemlfaaW.PrintWords
set_option linter.unusedVariables false

/-- the next number, told by the batches so far -/
def nxR (N : Nat) (pre : List Bat) : Prop := (pre = [] ∧ N = 0) ∨ (0 < pre.length ∧ ((pre.getD (pre.length - 1) zBat).1 + ((pre.getD (pre.length - 1) zBat).2.length : Int) = (N : Int)) ∧ 0 < N)
theorem nxR_snoc (N2 : Nat) (pre : List Bat) (q : Int) (l : List Chg) (h : q + (l.length : Int) = (N2 : Int)) (h0 : 0 < N2) : nxR N2 (pre ++ [(q, l)]) := by
  refine .inr ⟨by simp, ?_, h0⟩
  have e : (pre ++ [(q, l)]).getD ((pre ++ [(q, l)]).length - 1) zBat = (q, l) := by simp [List.getD_eq_getElem?_getD]
  rw [e]
  exact h
theorem last_cells {e : Nat} {w : World} {base : Nat} {ad : Addr} {pl co j n0 : Nat} {q0 : Int} {pre : List Bat} (HO : OwBt e w base (.slice (some ad) pl co) pre) (hj : j < pre.length) (hq : (pre.getD j zBat).1 = q0) (hl : (pre.getD j zBat).2.length = n0) :
    ∃ A c, w.cell? (ad.add (j * 2)) = some (.int .i64 q0) ∧ w.cell? ⟨(ad.add (j * 2)).block, (ad.add (j * 2)).off + 1, none⟩ = some (.slice A n0 c) := by
  obtain ⟨A, c, hv, hr⟩ := HO.rd
  obtain ⟨ad', A', c', e0, e1, e2, _⟩ := bat_at hr j hj
  cases hv
  cases e0
  rw [hq] at e1
  rw [hl] at e2
  exact ⟨A', c', e1, e2⟩
/-- what the round knows of the last batch -/
theorem rr_last {pre : List Bat} {N m : Nat} (h : nxR N pre) (hN : 0 < (N : Int)) (hN2 : N ≤ 1099511627840) (hm : pre.length ≤ m) (hm2 : m ≤ 17592186044416) :
    ∃ (j n0 : Nat) (q0 : Int), pre.length = j + 1 ∧ (pre.getD j zBat).1 = q0 ∧ (pre.getD j zBat).2.length = n0 ∧ wrap64 (q0 + (n0 : Int)) = (N : Int) ∧ IntKind.i64.wrap (q0 + (n0 : Int)) = (N : Int) ∧ q0 + (n0 : Int) = (N : Int) := by
  rcases h with ⟨_, h⟩ | ⟨h1, h2, _⟩
  · omega
  · refine ⟨pre.length - 1, _, _, by omega, rfl, rfl, ?_, ?_, h2⟩
    · rw [h2]; exact wrap_in' _ (by omega) (by omega)
    · rw [h2]; exact wrap_in _ (by omega) (by omega)
theorem rr_pos (dq : Int) (n3 N2 : Nat) (h : dq + (n3 : Int) = (N2 : Int)) (h1 : 1 ≤ dq) : 0 < N2 := by omega
theorem rr_nat (dq : Int) (n3 : Nat) (h1 : 1 ≤ dq) : ∃ N2 : Nat, dq + (n3 : Int) = (N2 : Int) := ⟨(dq + (n3 : Int)).toNat, by omega⟩
theorem rr_meas (p s m : Nat) (h : s ≤ m) (h2 : p < s) : m + 1 - s < m + 1 - p := by omega
theorem rr_idx (pl j : Nat) (h : pl = j + 1) (hl : pl ≤ 17592186044416) : wrap64 ((pl : Int) - 1) = (j : Int) ∧ IntKind.i64.wrap ((pl : Int) - 1) = (j : Int) ∧ (pl : Int) - 1 = (j : Int) ∧ (0 : Int) < (pl : Int) ∧ j < pl ∧ (j : Int) < (pl : Int) := 
  ⟨by rw [wrap_in' _ (by omega) (by omega)]; omega, by rw [wrap_in _ (by omega) (by omega)]; omega, by omega, by omega, by omega, by omega⟩
set_option maxRecDepth 100000 in
set_option maxHeartbeats 3200000 in
theorem rReplay_any (A : Option Addr) (c : Nat) (b : List UInt8) (w : World) (hx : RdB w A c b) (hl : b.length ≤ 17592186044416) :
    Calls Try.prog 23 #[.slice A b.length c] w fun e w' => ∃ v, e = .returned (.tuple #[v, .int .i64 ((rplN b 0).2 : Int)]) ∧ OwBt 24 w' w.heap.size v (rplN b 0).1 ∧ Below w.heap.size w w' := by
  have hm := hx.max
  rcases hR : rplN b 0 with ⟨L, G⟩
  obtain ⟨m, hbm⟩ : ∃ m, b.length = m := ⟨_, rfl⟩
  have HM := hide hbm
  rw [hbm] at hl hm ⊢
  have hcm : m ≤ c := by have := hx.le; omega
  clear hbm
  go_enter Try.func23, Try.ntmps23
  go_wp2
  go_loopw [4, 5] (fun out i wr => ∃ (p : Nat) (N : Nat) (pre : List Bat), p ≤ m ∧ i = .int .i64 (p : Int) ∧ nxR N pre ∧ N ≤ 1099511627840 ∧ pre.length * 5 ≤ p ∧ L = pre ++ (rplN (b.drop p) N).1 ∧ G = p + (rplN (b.drop p) N).2 ∧ OwBt 24 wr w.heap.size out pre ∧ Below w.heap.size w wr) (fun _ i _ => m + 1 - (intOf i).toNat)
  case atStart => exact ⟨0, 0, [], by omega, rfl, .inl ⟨rfl, rfl⟩, by omega, by simp, by rw [List.drop_zero]; simp [hR], by rw [List.drop_zero]; simp [hR], OwBt.zero _ _ _, Below.refl _ _⟩
  case round =>
    obtain ⟨p, N, pre, hp, rfl, hnx, hN, hpl, hL, hG2, HO, HB⟩ := hrel
    obtain ⟨Ao, co, hvo, hro⟩ := HO.rd
    subst hvo
    have hdr := fun W (h : Below w.heap.size w W) => (hx.below h).drop p (by rw [HM.out]; exact hp)
    have hdl : (b.drop p).length = m - p := by rw [List.length_drop, HM.out]
    have hsl := fun W => slice_lo 39 5 Try.underlying39 (i := _) rfl rfl A m c p hp W
    have hG := fun W (h : Below w.heap.size w W) => rFGet_any (cutA A c p) (c - p) (b.drop p) W (hdr W h) (by rw [hdl]; omega)
    have hfg := fg_ok (b.drop p)
    have hXl : (fgX (b.drop p)).length ≤ 140737488355328 := by
      by_cases h : fgE (b.drop p) = 0
      · have := (hfg h).2; rw [hdl] at this; omega
      · rw [fgX, if_neg h]; simp
    have hD := fun A c W (h : RdB W A c (fgX (b.drop p))) => rDecode_any A c _ (fgX (b.drop p)) W rfl h hXl
    have hdb := dec_bounds (fgX (b.drop p))
    rw [hdl] at hG hfg
    unfold fil at hG
    by_cases hst : rStop (b.drop p) N
    · rw [rplN_stop hst] at hL hG2
      simp only [List.append_nil, Nat.add_zero] at hL hG2
      replace hL := hL.symm
      replace hG2 := hG2.symm
      subst hL hG2
      unfold rStop at hst
      clear hR HM hx
      generalize fgE (b.drop p) = E at *
      generalize fgK (b.drop p) = K at *
      generalize fgS (b.drop p) = S at *
      generalize decE (fgX (b.drop p)) = de at *
      generalize decQ (fgX (b.drop p)) = dq at *
      generalize decL (fgX (b.drop p)) = dl at *
      generalize fgX (b.drop p) = X at *
      by_cases h1 : E = 0
      · subst h1
        by_cases h2 : K = 1
        · subst h2
          by_cases h3 : de = 0
          · subst h3
            have h4 : 0 < (N : Int) ∧ dq ≠ (N : Int) := by rcases hst with h | h | h | h <;> first | exact absurd rfl h | exact h
            obtain ⟨h5, h6⟩ := h4
            clear hst hdb
            obtain ⟨j, n0, q0, hj, hq0, hn0, y1, y2, hy⟩ := rr_last hnx h5 hN (Nat.le_trans (Nat.le_trans (Nat.le_mul_of_pos_right _ (by decide : 0 < 5)) hpl) hp) hl
            obtain ⟨z1, z2, z3, z4, z5, z6⟩ := rr_idx pre.length j hj (Nat.le_trans (Nat.le_trans (Nat.le_trans (Nat.le_mul_of_pos_right _ (by decide : 0 < 5)) hpl) hp) hl)
            obtain ⟨ad, _, _, rfl, _, _, _⟩ := bat_at hro j z5
            have HJ := hide z5
            have HQ0 := hide hq0
            have HN0 := hide hn0
            have z7 : 0 < pre.length := Nat.lt_of_le_of_lt (Nat.zero_le _) z5
            clear hnx hj hq0 hn0 hy z3
            obtain ⟨pl, hpl'⟩ : ∃ pl, pre.length = pl := ⟨_, rfl⟩
            have HPL := hide hpl'
            rw [hpl'] at HO hpl z1 z2 z4 z5 z6 z7 ⊢
            clear hro hpl'
            obtain ⟨n, hn⟩ : ∃ n, X.length = n := ⟨_, rfl⟩
            obtain ⟨q, hq⟩ : ∃ q, m - p = q := ⟨_, rfl⟩
            rw [hn] at hG
            rw [hq] at hsl hG
            obtain ⟨n3, hn3⟩ : ∃ n3, dl.length = n3 := ⟨_, rfl⟩
            rw [hn] at hD
            rw [hn3] at hD
            have HN3 := hide hn3
            clear hn3
            clear hn hq hdl hfg hdr
            go_wp2_with (first | (go_at_call 39; (with_reducible refine (hG _ HB).mono ?_); rintro e w1 ⟨A1, c1, rfl, HO1, HB1⟩; have b1 := below_alloc w1 (.cells #[.int .i64 1, .slice A1 n c1] 73); have X1 := Bx.new w1 1 (.slice A1 n c1) 73; obtain ⟨x10, x11, x12, x13⟩ := X1.read; have HO2 := (HO.below HB1).below b1; have HO12 := HO1.rdl.below b1; have HB2 := (HB.trans (HB1.mono HB.size)).alloc (HB.trans (HB1.mono HB.size)).size (.cells #[.int .i64 1, .slice A1 n c1] 73)) | (go_at_call 40; (with_reducible refine (hD _ _ _ HO12).mono ?_); rintro e w3 ⟨⟨A3, c3, rfl, HO3⟩, HB3⟩; have b3 := below_alloc w3 (.cells #[.int .i64 dq, .slice A3 n3 c3] 24); have X3 := Bx.new w3 dq (.slice A3 n3 c3) 24; obtain ⟨x30, x31, x32, x33⟩ := X3.read; have HO4 := (HO2.below HB3).below b3; have HO34 := HO3.below b3; have HB4 := (HB2.trans (HB3.mono HB2.size)).alloc (HB2.trans (HB3.mono HB2.size)).size (.cells #[.int .i64 dq, .slice A3 n3 c3] 24); obtain ⟨A5, c5, x34, x35⟩ := last_cells HO4 (HJ.out) HQ0.out HN0.out))
            have hS0 : (w3.alloc (.cells #[.int .i64 dq, .slice A3 n3 c3] 24)).drew.cell? ⟨w3.heap.size, 0, none⟩ = some (.int .i64 dq) ∧ (w3.alloc (.cells #[.int .i64 dq, .slice A3 n3 c3] 24)).drew.cell? ⟨w3.heap.size, 1, none⟩ = some (.slice A3 n3 c3) ∧ (w3.alloc (.cells #[.int .i64 dq, .slice A3 n3 c3] 24)).drew.cell? (ad.add (j * 2)) = some (.int .i64 q0) ∧ (w3.alloc (.cells #[.int .i64 dq, .slice A3 n3 c3] 24)).drew.cell? ⟨(ad.add (j * 2)).block, (ad.add (j * 2)).off + 1, none⟩ = some (.slice A5 n0 c5) := ⟨x30, x31, x34, x35⟩
            go_region_held3 (fun w' => w'.cell? ⟨w3.heap.size, 0, none⟩ = some (.int .i64 dq) ∧ w'.cell? ⟨w3.heap.size, 1, none⟩ = some (.slice A3 n3 c3) ∧ w'.cell? (ad.add (j * 2)) = some (.int .i64 q0) ∧ w'.cell? ⟨(ad.add (j * 2)).block, (ad.add (j * 2)).off + 1, none⟩ = some (.slice A5 n0 c5)) (first | exact hS0 | assumption) (first | (go_at_call 40))
            go_wp2
            go_ret2
            exact ⟨_, rfl, HO4.below (Below.refl _ _).drew, HB4.drew⟩
          · clear hst hdb
            obtain ⟨pl, hpl'⟩ : ∃ pl, pre.length = pl := ⟨_, rfl⟩
            rw [hpl'] at HO hpl ⊢
            have HPL := hide hpl'
            clear hro hpl'
            obtain ⟨n, hn⟩ : ∃ n, X.length = n := ⟨_, rfl⟩
            obtain ⟨q, hq⟩ : ∃ q, m - p = q := ⟨_, rfl⟩
            rw [hn] at hG
            rw [hq] at hsl hG
            obtain ⟨n3, hn3⟩ : ∃ n3, dl.length = n3 := ⟨_, rfl⟩
            rw [hn] at hD
            rw [hn3] at hD
            have HN3 := hide hn3
            clear hn3
            clear hn hq hdl hfg hdr hnx HPL
            go_wp2_with (first | (go_at_call 39; (with_reducible refine (hG _ HB).mono ?_); rintro e w1 ⟨A1, c1, rfl, HO1, HB1⟩; have b1 := below_alloc w1 (.cells #[.int .i64 1, .slice A1 n c1] 73); have X1 := Bx.new w1 1 (.slice A1 n c1) 73; obtain ⟨x10, x11, x12, x13⟩ := X1.read; have HO2 := (HO.below HB1).below b1; have HO12 := HO1.rdl.below b1; have HB2 := (HB.trans (HB1.mono HB.size)).alloc (HB.trans (HB1.mono HB.size)).size (.cells #[.int .i64 1, .slice A1 n c1] 73)) | (go_at_call 40; (with_reducible refine (hD _ _ _ HO12).mono ?_); rintro e w3 ⟨⟨A3, c3, rfl, HO3⟩, HB3⟩; have b3 := below_alloc w3 (.cells #[.int .i64 dq, .slice A3 n3 c3] 24); have X3 := Bx.new w3 dq (.slice A3 n3 c3) 24; obtain ⟨x30, x31, x32, x33⟩ := X3.read; have HO4 := (HO2.below HB3).below b3; have HO34 := HO3.below b3; have HB4 := (HB2.trans (HB3.mono HB2.size)).alloc (HB2.trans (HB3.mono HB2.size)).size (.cells #[.int .i64 dq, .slice A3 n3 c3] 24)))
            go_ret2
            exact ⟨_, rfl, HO4, HB4⟩
        · clear hst hD hdb
          obtain ⟨pl, hpl'⟩ : ∃ pl, pre.length = pl := ⟨_, rfl⟩
          rw [hpl'] at HO hpl ⊢
          have HPL := hide hpl'
          clear hro hpl'
          obtain ⟨n, hn⟩ : ∃ n, X.length = n := ⟨_, rfl⟩
          obtain ⟨q, hq⟩ : ∃ q, m - p = q := ⟨_, rfl⟩
          rw [hn] at hG
          rw [hq] at hsl hG
          clear hn hq hdl hfg hdr hnx HPL
          go_wp2_with (first | (go_at_call 39; (with_reducible refine (hG _ HB).mono ?_); rintro e w1 ⟨A1, c1, rfl, HO1, HB1⟩; have b1 := below_alloc w1 (.cells #[.int .i64 K, .slice A1 n c1] 73); have X1 := Bx.new w1 K (.slice A1 n c1) 73; obtain ⟨x10, x11, x12, x13⟩ := X1.read; have HO2 := (HO.below HB1).below b1; have HO12 := HO1.rdl.below b1; have HB2 := (HB.trans (HB1.mono HB.size)).alloc (HB.trans (HB1.mono HB.size)).size (.cells #[.int .i64 K, .slice A1 n c1] 73)))
          go_ret2
          exact ⟨_, rfl, HO2, HB2⟩
      · clear hst hD hdb
        obtain ⟨pl, hpl'⟩ : ∃ pl, pre.length = pl := ⟨_, rfl⟩
        rw [hpl'] at HO hpl ⊢
        have HPL := hide hpl'
        clear hro hpl'
        obtain ⟨n, hn⟩ : ∃ n, X.length = n := ⟨_, rfl⟩
        obtain ⟨q, hq⟩ : ∃ q, m - p = q := ⟨_, rfl⟩
        rw [hn] at hG
        rw [hq] at hsl hG
        clear hn hq hdl hfg hdr hnx HPL
        go_wp2_with (first | (go_at_call 39; (with_reducible refine (hG _ HB).mono ?_); rintro e w1 ⟨A1, c1, rfl, HO1, HB1⟩; have b1 := below_alloc w1 (.cells #[.int .i64 K, .slice A1 n c1] 73); have X1 := Bx.new w1 K (.slice A1 n c1) 73; obtain ⟨x10, x11, x12, x13⟩ := X1.read; have HO2 := (HO.below HB1).below b1; have HO12 := HO1.rdl.below b1; have HB2 := (HB.trans (HB1.mono HB.size)).alloc (HB.trans (HB1.mono HB.size)).size (.cells #[.int .i64 K, .slice A1 n c1] 73)))
        go_ret2
        exact ⟨_, rfl, HO2, HB2⟩
    · rw [rplN_go hst] at hL hG2
      obtain ⟨r1, r2, r3, r4⟩ := rStop_ok hst
      obtain ⟨d1, d2, d3, d4⟩ := hdb
      obtain ⟨d5, d6⟩ := d4 r3
      obtain ⟨f1, f2, f3⟩ := hfg r1
      rw [List.drop_drop] at hL hG2
      simp only at hL hG2
      rw [r1, r2] at hG
      rw [r3] at hD
      clear hst hR r1 r2 r3
      generalize fgE (b.drop p) = E at *
      generalize fgK (b.drop p) = K at *
      generalize fgS (b.drop p) = S at *
      generalize decE (fgX (b.drop p)) = de at *
      generalize decQ (fgX (b.drop p)) = dq at *
      generalize decL (fgX (b.drop p)) = dl at *
      generalize fgX (b.drop p) = X at *
      obtain ⟨n, hn⟩ : ∃ n, X.length = n := ⟨_, rfl⟩
      obtain ⟨q, hq⟩ : ∃ q, m - p = q := ⟨_, rfl⟩
      rw [hn] at hG
      rw [hq] at hsl hG
      obtain ⟨n3, hn3⟩ : ∃ n3, dl.length = n3 := ⟨_, rfl⟩
      obtain ⟨s, hs⟩ : ∃ s, p + S = s := ⟨_, rfl⟩
      obtain ⟨N2, hN2⟩ : ∃ N2 : Nat, dq + (n3 : Int) = (N2 : Int) := rr_nat dq n3 d5
      rw [hn] at hD
      rw [hn3] at hD hL hG2 d3 d6
      rw [hN2] at hL hG2
      rw [hs] at hL hG2
      obtain ⟨a1, s1, s2, hN2b, hpre, hpre2⟩ := rp_arith p S s m N2 n3 pre.length dq hs f1 f2 hp hl d2 d3 hN2 hpl
      obtain ⟨w1_, w2_, w3_, w4_⟩ := rp_wraps s N2 m s1 hl hN2b
      have HNX := hide (nxR_snoc N2 pre dq dl (by rw [hn3]; exact hN2) (rr_pos dq n3 N2 hN2 d5))
      have HPRE := hide hpre
      have HP2 := hide hpre2
      have HL := hide hL
      have hG3 : G = s + (rplN (b.drop s) N2).2 := by rw [hG2, ← Nat.add_assoc, hs]
      have HG := hide hG3
      clear hn hq hdl hfg hdr hn3 hs hpre hpre2 hL hG2 hG3 d1 d2 d3 d4 d5 d6 f1 f2 f3
      by_cases h5 : 0 < (N : Int)
      · obtain rfl := r4 h5
        clear r4
        obtain ⟨j, n0, q0, hj, hq0, hn0, y1, y2, hy⟩ := rr_last hnx h5 hN (Nat.le_trans (Nat.le_trans (Nat.le_mul_of_pos_right _ (by decide : 0 < 5)) hpl) hp) hl
        obtain ⟨z1, z2, z3, z4, z5, z6⟩ := rr_idx pre.length j hj (Nat.le_trans (Nat.le_trans (Nat.le_trans (Nat.le_mul_of_pos_right _ (by decide : 0 < 5)) hpl) hp) hl)
        obtain ⟨ad, _, _, rfl, _, _, _⟩ := bat_at hro j z5
        have HJ := hide z5
        have HQ0 := hide hq0
        have HN0 := hide hn0
        have z7 : 0 < pre.length := Nat.lt_of_le_of_lt (Nat.zero_le _) z5
        clear hnx hj hq0 hn0 hy z3
        obtain ⟨pl, hpl'⟩ : ∃ pl, pre.length = pl := ⟨_, rfl⟩
        have HPL := hide hpl'
        rw [hpl'] at HO z1 z2 z4 z5 z6 z7 ⊢
        clear hro hpl hpl'
        have hOl := HO.lt
        go_wp2_with (first | (go_at_call 39; (with_reducible refine (hG _ HB).mono ?_); rintro e w1 ⟨A1, c1, rfl, HO1, HB1⟩; have b1 := below_alloc w1 (.cells #[.int .i64 1, .slice A1 n c1] 73); have X1 := Bx.new w1 1 (.slice A1 n c1) 73; obtain ⟨x10, x11, x12, x13⟩ := X1.read; have HO2 := (HO.below HB1).below b1; have HO12 := HO1.rdl.below b1; have HB2 := (HB.trans (HB1.mono HB.size)).alloc (HB.trans (HB1.mono HB.size)).size (.cells #[.int .i64 1, .slice A1 n c1] 73)) | (go_at_call 40; (with_reducible refine (hD _ _ _ HO12).mono ?_); rintro e w3 ⟨⟨A3, c3, rfl, HO3⟩, HB3⟩; have b3 := below_alloc w3 (.cells #[.int .i64 (N : Int), .slice A3 n3 c3] 24); have X3 := Bx.new w3 (N : Int) (.slice A3 n3 c3) 24; obtain ⟨x30, x31, x32, x33⟩ := X3.read; have HO4 := (HO2.below HB3).below b3; have HO34 := HO3.below b3; have HB4 := (HB2.trans (HB3.mono HB2.size)).alloc (HB2.trans (HB3.mono HB2.size)).size (.cells #[.int .i64 (N : Int), .slice A3 n3 c3] 24); obtain ⟨A5, c5, x34, x35⟩ := last_cells HO4 (HJ.out) HQ0.out HN0.out; have hlo : ∀ k, Value.ownBlock (.slice (some ad) pl co) = some k → k < (w1.alloc (.cells #[.int .i64 1, .slice A1 n c1] 73)).heap.size := fun k hk => Nat.lt_of_lt_of_le (hOl k hk) (Nat.le_trans HB1.size b1.size)))
        have hS0 : (w3.alloc (.cells #[.int .i64 (N : Int), .slice A3 n3 c3] 24)).drew.cell? ⟨w3.heap.size, 0, none⟩ = some (.int .i64 (N : Int)) ∧ (w3.alloc (.cells #[.int .i64 (N : Int), .slice A3 n3 c3] 24)).drew.cell? ⟨w3.heap.size, 1, none⟩ = some (.slice A3 n3 c3) ∧ (w3.alloc (.cells #[.int .i64 (N : Int), .slice A3 n3 c3] 24)).drew.cell? (ad.add (j * 2)) = some (.int .i64 q0) ∧ (w3.alloc (.cells #[.int .i64 (N : Int), .slice A3 n3 c3] 24)).drew.cell? ⟨(ad.add (j * 2)).block, (ad.add (j * 2)).off + 1, none⟩ = some (.slice A5 n0 c5) := ⟨x30, x31, x34, x35⟩
        go_region_held3 (fun w' => w'.cell? ⟨w3.heap.size, 0, none⟩ = some (.int .i64 (N : Int)) ∧ w'.cell? ⟨w3.heap.size, 1, none⟩ = some (.slice A3 n3 c3) ∧ w'.cell? (ad.add (j * 2)) = some (.int .i64 q0) ∧ w'.cell? ⟨(ad.add (j * 2)).block, (ad.add (j * 2)).off + 1, none⟩ = some (.slice A5 n0 c5)) (first | exact hS0 | assumption) (first | (go_at_call 40))
        go_wp2_with (first | ((refine app_bat (w0 := w) (W := (w3.alloc (.cells #[.int .i64 (N : Int), .slice A3 n3 c3] 24)).drew) 24 56 w.heap.size (w1.alloc (.cells #[.int .i64 1, .slice A1 n c1] 73)).heap.size (by rfl) (.tmp 64) (.tmp 66) rfl Try.underlying56 info_rbat (.slice (some ad) pl co) pre (N : Int) (.slice A3 n3 c3) dl (by rfl) (by show _ = Value.slice (some ⟨(w3.alloc _).heap.size, 0, none⟩) 1 1; rw [World.size_alloc]; rfl) (HO4.below (Below.refl _ _).drew) (HO34.below (Below.refl _ _).drew) HB2.size hlo HB4.drew HB4.drew.size HPRE.out ?_); intro v6 w6 HO6 HB6))
        go_roundw
        case rel => exact ⟨s, N2, pre ++ [((N : Int), dl)], s1, by go_num, HNX.out, hN2b, by rw [List.length_append, List.length_singleton, Nat.add_mul]; exact HP2.out, by rw [HL.out]; simp, HG.out, HO6, HB6⟩
        case measure => first | exact rr_meas p s m s1 s2 | (simp [intOf]; exact rr_meas p s m s1 s2) | (simp [intOf]; omega)
      · have h00 : pre = [] := by rcases hnx with ⟨h, _⟩ | ⟨_, _, h⟩ <;> first | exact h | (exact absurd (Int.natCast_pos.2 h) h5)
        have hz : pre.length = 0 := by rw [h00]; rfl
        rw [hz] at HO ⊢
        clear r4 hnx hro hpl hz h00
        have hOl := HO.lt
        go_wp2_with (first | (go_at_call 39; (with_reducible refine (hG _ HB).mono ?_); rintro e w1 ⟨A1, c1, rfl, HO1, HB1⟩; have b1 := below_alloc w1 (.cells #[.int .i64 1, .slice A1 n c1] 73); have X1 := Bx.new w1 1 (.slice A1 n c1) 73; obtain ⟨x10, x11, x12, x13⟩ := X1.read; have HO2 := (HO.below HB1).below b1; have HO12 := HO1.rdl.below b1; have HB2 := (HB.trans (HB1.mono HB.size)).alloc (HB.trans (HB1.mono HB.size)).size (.cells #[.int .i64 1, .slice A1 n c1] 73)) | (go_at_call 40; (with_reducible refine (hD _ _ _ HO12).mono ?_); rintro e w3 ⟨⟨A3, c3, rfl, HO3⟩, HB3⟩; have b3 := below_alloc w3 (.cells #[.int .i64 dq, .slice A3 n3 c3] 24); have X3 := Bx.new w3 dq (.slice A3 n3 c3) 24; obtain ⟨x30, x31, x32, x33⟩ := X3.read; have HO4 := (HO2.below HB3).below b3; have HO34 := HO3.below b3; have HB4 := (HB2.trans (HB3.mono HB2.size)).alloc (HB2.trans (HB3.mono HB2.size)).size (.cells #[.int .i64 dq, .slice A3 n3 c3] 24); have hlo : ∀ k, Value.ownBlock (.slice Ao 0 co) = some k → k < (w1.alloc (.cells #[.int .i64 1, .slice A1 n c1] 73)).heap.size := fun k hk => Nat.lt_of_lt_of_le (hOl k hk) (Nat.le_trans HB1.size b1.size)))
        have W3 := (rfl : (w3.alloc (.cells #[.int .i64 dq, .slice A3 n3 c3] 24)).heap.size = (w3.alloc (.cells #[.int .i64 dq, .slice A3 n3 c3] 24)).heap.size)
        clear W3
        refine wp_region_below (w3.alloc (.cells #[.int .i64 dq, .slice A3 n3 c3] 24)).heap.size _ (Below.refl _ _) (by kernel_rfl) (by kernel_rfl) ?_
        repeat (go_big_quiet_step ((intro hb; rfl)))
        refine wpQuiet_nil ?_
        intro w5 HC5
        have HO5 := HO4.below HC5
        have HO35 := HO34.below HC5
        have HB5 := HB4.trans (HC5.mono HB4.size)
        have X5 := X3.below HC5
        obtain ⟨x50, x51, _, _⟩ := X5.read
        go_wp2_with (first | ((refine app_bat (w0 := w) (W := w5) 24 56 w.heap.size (w1.alloc (.cells #[.int .i64 1, .slice A1 n c1] 73)).heap.size (by rfl) (.tmp 64) (.tmp 66) rfl Try.underlying56 info_rbat (.slice Ao 0 co) pre dq (.slice A3 n3 c3) dl (by rfl) (by show _ = Value.slice (some ⟨w5.heap.size, 0, none⟩) 1 1; rfl) HO5 HO35 HB2.size hlo HB5 HB5.size HPRE.out ?_); intro v6 w6 HO6 HB6))
        go_roundw
        case rel => exact ⟨s, N2, pre ++ [(dq, dl)], s1, by go_num, HNX.out, hN2b, by rw [List.length_append, List.length_singleton, Nat.add_mul]; exact HP2.out, by rw [HL.out]; simp, HG.out, HO6, HB6⟩
        case measure => first | exact rr_meas p s m s1 s2 | (simp [intOf]; exact rr_meas p s m s1 s2) | (simp [intOf]; omega)
end Go.Proofs.Ytebefonohemlfaa
end

/- The walk of BloomTells. -/
import Derived.Test.YtmnecbmneljhkaaLawBloomKnows
namespace Go.Proofs.Ytmnecbmneljhkaa
open Go.RowKit Go.Shelf Go.Proofs.YtmnecbmneljhkaaW.PrintWords
set_option linter.unusedVariables false

/-- behind the first region: the copies, wherever the variable was laid -/
structure Laid (W0 W : World) (g : Nat) (K : Int) (A1 A2 : Option Addr) (n1 c1 n2 c2 : Nat) (xs : List UInt8) (ss : List ByteArray) : Prop where
  box : Bx W g K (.slice A1 n1 c1) 27
  f : OwB W W0.heap.size (.slice A1 n1 c1) xs
  s : OwS W W0.heap.size (.slice A2 n2 c2) ss
  below : Below W0.heap.size W0 W
theorem laid_last {W0 w : World} {K : Int} {A1 A2 : Option Addr} {n1 c1 n2 c2 : Nat} {xs : List UInt8} {ss : List ByteArray} (hf : OwB w W0.heap.size (.slice A1 n1 c1) xs) (hs : OwS w W0.heap.size (.slice A2 n2 c2) ss) (hb : Below W0.heap.size W0 w) :
    Laid W0 (w.alloc (.cells #[.int .i64 K, .slice A1 n1 c1] 27)) w.heap.size K A1 A2 n1 c1 n2 c2 xs ss :=
  ⟨Bx.new _ _ _ _, hf.below (below_alloc _ _), hs.below (below_alloc _ _), hb.alloc hb.size _⟩
theorem laid_early {W0 w : World} {g : Nat} {K : Int} {A1 A2 : Option Addr} {n1 c1 n2 c2 : Nat} {xs : List UInt8} {ss : List ByteArray} (hg : w.heap[g]? = some (.cells #[.int .i64 0, .slice none 0 0] 27)) (hge : W0.heap.size ≤ g) (hf : OwB w W0.heap.size (.slice A1 n1 c1) xs) (hs : OwS w W0.heap.size (.slice A2 n2 c2) ss) (hb : Below W0.heap.size W0 w) :
    Laid W0 ((w.setCell ⟨g, 0, none⟩ (.int .i64 K)).setCell ⟨g, 1, none⟩ (.slice A1 n1 c1)) g K A1 A2 n1 c1 n2 c2 xs ss := by
  have h1 := own_ne hf hg (by decide)
  have h2 := own_ne hs hg (by decide)
  exact ⟨two_cells hg, own_setCell (own_setCell hf (p := ⟨g, 0, none⟩) h1 _) (p := ⟨g, 1, none⟩) h1 _, own_setCell (own_setCell hs (p := ⟨g, 0, none⟩) h2 _) (p := ⟨g, 1, none⟩) h2 _, (hb.setCell (p := ⟨g, 0, none⟩) hge _).setCell (p := ⟨g, 1, none⟩) hge _⟩
theorem OwS.rdl {w : World} {base : Nat} {A : Option Addr} {n c : Nat} {xs : List ByteArray} (h : OwS w base (.slice A n c) xs) : RdS w A c xs := by
  obtain ⟨A', c', hv, hr⟩ := h.rd
  injection hv with h1 _ h3
  subst h1
  subst h3
  exact hr
theorem drew_below (W : World) : Below W.heap.size W W.drew := (Below.refl _ _).drew
set_option maxHeartbeats 8000000 in
theorem tells_walk (A : Option Addr) (ca : Nat) (ss : List ByteArray) (each K : Int) (B : Option Addr) (cb : Nat) (xs : List UInt8) (key : ByteArray) (w : World) (hx : RdS w A ca ss) (hss : ss.length * 16 ≤ 140737488351232 ∧ ∀ s ∈ ss, s.size ≤ 140737488351232) (h0 : (Lit.int .i64 each).wf = true) (hy : RdB w B cb xs) (ly : xs.length ≤ 140737488351232) (hk : key.size ≤ 140737488351232) :
    Calls Try.prog 3 #[.slice A ss.length ca, .int .i64 each, fil K B xs.length cb, .string key] w fun e w' => e = .returned (.bool true) ∧ Below w.heap.size w w' := by
  have ly' : xs.length ≤ 140737488355328 := by omega
  have hk' : key.size ≤ 140737488355328 := by omega
  have hss' : ∀ s ∈ ss, s.size ≤ 140737488355328 := fun s hs => Nat.le_trans (hss.2 s hs) (by decide)
  have hCS0 := fun W (h : RdS W A ca ss) => CopyStrings_any A ca ss W h (by omega)
  have hOF0 := fun W (h : RdB W B cb xs) => of_any K B xs.length cb xs W rfl h ly'
  have hM := fun A c W (h : RdS W A c ss) => Make_any A c ss each hss' W h
  have hR := fun A c W (h : RdS W A c ss) => rMake_any A c ss each hss' W h
  have hH := fun A c W (h : RdB W A c xs) => Has_any K A c xs key hk' W h
  have hQ := fun A c W (h : RdB W A c xs) => rHas_any K A c xs key hk' W h
  have hHa := fun W => Hash_any key hk' W
  have hHr := fun W => rHash_any key hk' W
  have hS := fun A B c d W (h : RdB W A c xs) (h' : RdB W B d xs) => same_any K K A B _ _ c d xs xs W rfl rfl h h'
  have hT := fun A B c d W (h : RdB W A c (makeX each ss)) (h' : RdB W B d (makeX each ss)) => same_any (makeK each ss.length) (makeK each ss.length) A B _ _ c d _ _ W rfl rfl h h'
  have hSS := fun A B c d W (h : RdS W A c ss) (h' : RdS W B d ss) => SameStrings_any A B c d ss ss W h h'
  simp only [and_self, decide_true] at hS hT hSS
  generalize hasB K xs key = HB at *
  generalize encE K xs.length = HE at *
  generalize makeE each ss.length = ME at *
  generalize makeK each ss.length = MK at *
  generalize makeX each ss = MX at *
  generalize (hash key).toNat = HK at *
  obtain ⟨n, hn⟩ : ∃ n, ss.length = n := ⟨_, rfl⟩
  obtain ⟨m, hm⟩ : ∃ m, xs.length = m := ⟨_, rfl⟩
  obtain ⟨q, hq⟩ : ∃ q, MX.length = q := ⟨_, rfl⟩
  simp only [hn, hm, hq] at hCS0 hOF0 hM hR hH hQ hS hT hSS ⊢
  have HN := hide hn
  have HM := hide hm
  have HQ := hide hq
  clear hn hm hq ly ly' hss hss' hk hk' h0
  unfold fil at *
  have hx0 := hx.below (below_alloc w (.cells #[.int .i64 K, .slice B m cb] 25))
  have hy0 := hy.below (below_alloc w (.cells #[.int .i64 K, .slice B m cb] 25))
  have X0 := Bx.new w K (.slice B m cb) 25
  have B0 := below_alloc w (.cells #[.int .i64 K, .slice B m cb] 25)
  go_enter Try.func3, Try.ntmps3
  go_wp2
  generalize w.alloc (.cells #[.int .i64 K, .slice B m cb] 25) = W0 at *
  obtain ⟨p0, p1, p2, p3⟩ := X0.read
  have hS0 : Below W0.heap.size W0 W0.drew ∧ W0.drew.cell? ⟨w.heap.size, 0, none⟩ = some (.int .i64 K) ∧ W0.drew.cell? ⟨w.heap.size, 1, none⟩ = some (.slice B m cb) := ⟨(Below.refl _ _).drew, p0, p1⟩
  have hSk : ∀ W, Below W0.heap.size W0 W → W.cell? ⟨w.heap.size, 0, none⟩ = some (.int .i64 K) ∧ W.cell? ⟨w.heap.size, 1, none⟩ = some (.slice B m cb) := fun W h => ⟨(h.cell (World.block_lt_of_cell? W0 _ p0)).trans p0, (h.cell (World.block_lt_of_cell? W0 _ p1)).trans p1⟩
  have hCS := fun W (h : Below W0.heap.size W0 W) => hCS0 W (hx0.below h)
  have hOF := fun W (h : Below W0.heap.size W0 W) => hOF0 W (hy0.below h)
  clear hCS0 hOF0
  go_region_held3 (fun w' => Below W0.heap.size W0 w' ∧ w'.cell? ⟨w.heap.size, 0, none⟩ = some (.int .i64 K) ∧ w'.cell? ⟨w.heap.size, 1, none⟩ = some (.slice B m cb)) (first | exact hS0 | assumption | exact ⟨HBtS, hSk _ HBtS⟩ | exact ⟨HBtO, hSk _ HBtO⟩ | exact ⟨HBtS.alloc HBtS.size _, hSk _ (HBtS.alloc HBtS.size _)⟩ | exact ⟨HBtO.alloc HBtO.size _, hSk _ (HBtO.alloc HBtO.size _)⟩ | (have hh := ‹Below W0.heap.size W0 _ ∧ _ ∧ _›; exact ⟨hh.1.alloc hh.1.size _, hSk _ (hh.1.alloc hh.1.size _)⟩) | (have hh := ‹Below W0.heap.size W0 _ ∧ _ ∧ _›; exact ⟨(hh.1.setCell (p := ⟨_, 0, none⟩) (by first | exact HBtS.size | exact HBtO.size | exact Nat.le_refl _) _).setCell (p := ⟨_, 1, none⟩) (by first | exact HBtS.size | exact HBtO.size | exact Nat.le_refl _) _, hSk _ ((hh.1.setCell (p := ⟨_, 0, none⟩) (by first | exact HBtS.size | exact HBtO.size | exact Nat.le_refl _) _).setCell (p := ⟨_, 1, none⟩) (by first | exact HBtS.size | exact HBtO.size | exact Nat.le_refl _) _)⟩)) (first | (go_at_call 9; have hh := ‹Below W0.heap.size W0 _ ∧ _ ∧ _›; refine (hCS _ hh.1).mono ?_; rintro e wS ⟨vS, rfl, HOS, HBS⟩; have HBtS := hh.1.trans (HBS.mono hh.1.size); replace HOS := HOS.lower hh.1.size; obtain ⟨A2, c2, hv2, hr2⟩ := HOS.rd; rw [HN.out] at hv2; subst hv2; clear hr2; (first | (replace HOO := HOO.below HBS) | (replace HOO := (HOO.below (below_alloc _ _)).below HBS) | skip); (first | (have kG := (HBS.block _ (Array.getElem?_eq_some_iff.1 kG).1).trans kG) | (have kG := (HBS.block _ (Array.getElem?_eq_some_iff.1 (heap_alloc_new _ _)).1).trans (heap_alloc_new _ _)) | skip); try (have hkk := two_read kG; obtain ⟨k2, k3, k4, k5⟩ := hkk)) | (go_at_call 10; have hh := ‹Below W0.heap.size W0 _ ∧ _ ∧ _›; refine (hOF _ hh.1).mono ?_; rintro e wO ⟨A1, c1, rfl, HOO, HBO⟩; have HBtO := hh.1.trans (HBO.mono hh.1.size); replace HOO := HOO.lower hh.1.size; (first | (replace HOS := HOS.below HBO) | (replace HOS := (HOS.below (below_alloc _ _)).below HBO) | skip); (first | (have kG := (HBO.block _ (Array.getElem?_eq_some_iff.1 kG).1).trans kG) | (have kG := (HBO.block _ (Array.getElem?_eq_some_iff.1 (heap_alloc_new _ _)).1).trans (heap_alloc_new _ _)) | skip); try (have hkk := two_read kG; obtain ⟨k2, k3, k4, k5⟩ := hkk)))
  all_goals first
  | (have LL := laid_last (W0 := W0) (K := K) HOO HOS HBtS
     generalize wS.alloc (.cells #[.int .i64 K, .slice A1 m c1] 27) = WF at LL ⊢
     show Exit.then _ _ _ _ WF
     revert LL)
  | (have LL := laid_last (W0 := W0) (K := K) HOO HOS HBtO
     generalize wO.alloc (.cells #[.int .i64 K, .slice A1 m c1] 27) = WF at LL ⊢
     show Exit.then _ _ _ _ WF
     revert LL)
  | (have LL := laid_early (W0 := W0) (K := K) kG (by first | exact HBtS.size | exact HBtO.size | exact Nat.le_refl _) HOO HOS (by first | exact HBtS | exact HBtO)
     generalize ((World.setCell _ _ (Value.int IntKind.i64 K)).setCell _ (Value.slice A1 m c1)) = WF at LL ⊢
     show Exit.then _ _ _ _ WF
     revert LL)
  all_goals (
    intro LL
    have XI := LL.box
    have FI := LL.f
    have SO := LL.s
    replace X0 := X0.below LL.below
    replace hx0 := hx0.below LL.below
    replace hy0 := hy0.below LL.below
    replace B0 := B0.trans (LL.below.mono B0.size)
    clear LL hCS hOF hS0 hSk p0 p1 p2 p3
    obtain ⟨x00, x01, x02, x03⟩ := X0.read
    obtain ⟨xi0, xi1, xi2, xi3⟩ := XI.read
    go_wp2_with (first | (go_at_call 11; (with_reducible refine (hM _ _ _ SO.rdl).mono ?_); rintro e w3 ⟨A3, c3, rfl, HO3, HB3⟩; replace hx0 := hx0.below HB3; replace hy0 := hy0.below HB3; replace FI := FI.below HB3; replace SO := SO.below HB3; replace X0 := X0.below HB3; replace XI := XI.below HB3; replace B0 := B0.trans (HB3.mono B0.size); have b3 := below_alloc w3 (.cells #[.int .i64 MK, .slice A3 q c3] 27); have X3 := Bx.new w3 MK (.slice A3 q c3) 27; replace hx0 := hx0.below b3; replace hy0 := hy0.below b3; replace FI := FI.below b3; replace SO := SO.below b3; replace HO3 := HO3.below b3; replace X0 := X0.below b3; replace XI := XI.below b3; replace B0 := B0.alloc B0.size (.cells #[.int .i64 MK, .slice A3 q c3] 27); obtain ⟨x00, x01, x02, x03⟩ := X0.read; obtain ⟨xi0, xi1, xi2, xi3⟩ := XI.read; obtain ⟨x30, x31, x32, x33⟩ := X3.read) | (go_at_call 12; (with_reducible refine (hR _ _ _ hx0).mono ?_); rintro e w4 ⟨A4, c4, rfl, HO4, HB4⟩; replace hx0 := hx0.below HB4; replace hy0 := hy0.below HB4; replace FI := FI.below HB4; replace SO := SO.below HB4; replace HO3 := HO3.below HB4; replace X0 := X0.below HB4; replace XI := XI.below HB4; replace X3 := X3.below HB4; replace B0 := B0.trans (HB4.mono B0.size); have b4 := below_alloc w4 (.cells #[.int .i64 MK, .slice A4 q c4] 25); have X4 := Bx.new w4 MK (.slice A4 q c4) 25; replace hx0 := hx0.below b4; replace hy0 := hy0.below b4; replace FI := FI.below b4; replace SO := SO.below b4; replace HO3 := HO3.below b4; replace HO4 := HO4.below b4; replace X0 := X0.below b4; replace XI := XI.below b4; replace X3 := X3.below b4; replace B0 := B0.alloc B0.size (.cells #[.int .i64 MK, .slice A4 q c4] 25); obtain ⟨x00, x01, x02, x03⟩ := X0.read; obtain ⟨xi0, xi1, xi2, xi3⟩ := XI.read; obtain ⟨x30, x31, x32, x33⟩ := X3.read; obtain ⟨x40, x41, x42, x43⟩ := X4.read) | (go_at_call 13; (with_reducible refine (hH _ _ _ FI.rdl).mono ?_); rintro e w5 ⟨rfl, HB5⟩; replace hx0 := hx0.below HB5; replace hy0 := hy0.below HB5; replace FI := FI.below HB5; replace SO := SO.below HB5; replace HO3 := HO3.below HB5; replace HO4 := HO4.below HB5; replace X0 := X0.below HB5; replace XI := XI.below HB5; replace X3 := X3.below HB5; replace X4 := X4.below HB5; replace B0 := B0.trans (HB5.mono B0.size); obtain ⟨x00, x01, x02, x03⟩ := X0.read; obtain ⟨xi0, xi1, xi2, xi3⟩ := XI.read; obtain ⟨x30, x31, x32, x33⟩ := X3.read; obtain ⟨x40, x41, x42, x43⟩ := X4.read) | (go_at_call 14; (with_reducible refine (hQ _ _ _ hy0).mono ?_); rintro e w6 ⟨rfl, HB6⟩; replace hx0 := hx0.below HB6; replace hy0 := hy0.below HB6; replace FI := FI.below HB6; replace SO := SO.below HB6; replace HO3 := HO3.below HB6; replace HO4 := HO4.below HB6; replace X0 := X0.below HB6; replace XI := XI.below HB6; replace X3 := X3.below HB6; replace X4 := X4.below HB6; replace B0 := B0.trans (HB6.mono B0.size); obtain ⟨x00, x01, x02, x03⟩ := X0.read; obtain ⟨xi0, xi1, xi2, xi3⟩ := XI.read; obtain ⟨x30, x31, x32, x33⟩ := X3.read; obtain ⟨x40, x41, x42, x43⟩ := X4.read) | (go_at_call 15; (with_reducible refine (hHa _).mono ?_); rintro e w7 ⟨rfl, HB7⟩; replace hx0 := hx0.below HB7; replace hy0 := hy0.below HB7; replace FI := FI.below HB7; replace SO := SO.below HB7; replace HO3 := HO3.below HB7; replace HO4 := HO4.below HB7; replace X0 := X0.below HB7; replace XI := XI.below HB7; replace X3 := X3.below HB7; replace X4 := X4.below HB7; replace B0 := B0.trans (HB7.mono B0.size); obtain ⟨x00, x01, x02, x03⟩ := X0.read; obtain ⟨xi0, xi1, xi2, xi3⟩ := XI.read; obtain ⟨x30, x31, x32, x33⟩ := X3.read; obtain ⟨x40, x41, x42, x43⟩ := X4.read) | (go_at_call 16; refine (hHr _).mono ?_; rintro e w' ⟨rfl, rfl⟩) | (go_at_call 17; (with_reducible refine (hT _ _ _ _ _ HO3.rdl HO4.rdl).mono ?_); rintro e w8 ⟨rfl, HB8⟩; replace hx0 := hx0.below HB8; replace hy0 := hy0.below HB8; replace FI := FI.below HB8; replace SO := SO.below HB8; replace HO3 := HO3.below HB8; replace HO4 := HO4.below HB8; replace X0 := X0.below HB8; replace XI := XI.below HB8; replace X3 := X3.below HB8; replace X4 := X4.below HB8; replace B0 := B0.trans (HB8.mono B0.size); obtain ⟨x00, x01, x02, x03⟩ := X0.read; obtain ⟨xi0, xi1, xi2, xi3⟩ := XI.read; obtain ⟨x30, x31, x32, x33⟩ := X3.read; obtain ⟨x40, x41, x42, x43⟩ := X4.read) | (go_at_call 18; refine (num_any _ _).mono ?_; rintro e w' ⟨rfl, rfl⟩) | (go_at_call 19; (with_reducible refine (hSS _ _ _ _ _ SO.rdl hx0).mono ?_); rintro e w9 ⟨rfl, HB9⟩; replace hx0 := hx0.below HB9; replace hy0 := hy0.below HB9; replace FI := FI.below HB9; replace SO := SO.below HB9; replace HO3 := HO3.below HB9; replace HO4 := HO4.below HB9; replace X0 := X0.below HB9; replace XI := XI.below HB9; replace X3 := X3.below HB9; replace X4 := X4.below HB9; replace B0 := B0.trans (HB9.mono B0.size); obtain ⟨x00, x01, x02, x03⟩ := X0.read; obtain ⟨xi0, xi1, xi2, xi3⟩ := XI.read; obtain ⟨x30, x31, x32, x33⟩ := X3.read; obtain ⟨x40, x41, x42, x43⟩ := X4.read) | (go_at_call 17; (with_reducible refine (hS _ _ _ _ _ FI.rdl hy0).mono ?_); rintro e w10 ⟨rfl, HB10⟩; replace hx0 := hx0.below HB10; replace hy0 := hy0.below HB10; replace FI := FI.below HB10; replace SO := SO.below HB10; replace HO3 := HO3.below HB10; replace HO4 := HO4.below HB10; replace X0 := X0.below HB10; replace XI := XI.below HB10; replace X3 := X3.below HB10; replace X4 := X4.below HB10; replace B0 := B0.trans (HB10.mono B0.size); obtain ⟨x00, x01, x02, x03⟩ := X0.read; obtain ⟨xi0, xi1, xi2, xi3⟩ := XI.read; obtain ⟨x30, x31, x32, x33⟩ := X3.read; obtain ⟨x40, x41, x42, x43⟩ := X4.read) | (go_at_call 20; refine (alive_any _).mono ?_; rintro e w12 ⟨rfl, HB12⟩; replace B0 := B0.trans (HB12.mono B0.size)))
    go_ret
    exact ⟨by first | rfl | simp, B0⟩)
end Go.Proofs.Ytmnecbmneljhkaa

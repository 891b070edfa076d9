/- Frame: the walks of records (the maker of the iterator), of the iterator, and of Scan. -/
import Derived.Test.YtaonjbpaeloniaaFrI
import Derived.Test.YtaonjbpaeloniaaRangeV
namespace Go.Proofs.Ytaonjbpaeloniaa
open Go.RowKit Go.Shelf Go.Proofs.YtaonjbpaeloniaaW.PrintWords
set_option linter.unusedVariables false

theorem wrap64_id (k : Nat) (h : k ≤ 9223372036854775807) : wrap64 (k : Int) = (k : Int) := by
  unfold wrap64
  omega
theorem wide_fn (n : Nat) : Fence.wide.fn n := trivial
theorem wide_depth (d : Nat) : Fence.wide.depth.isSome = true → 1 ≤ d := fun h => absurd h (by simp [Fence.wide])
/-- octets in a variable -/
def Bs (w : World) (b : Nat) (v : Value) (ty : TypeId) : Prop := w.heap[b]? = some (.cells #[v] ty)
theorem records_any (A : Option Addr) (n c : Nat) (w : World) :
    Calls Try.prog 33 #[.slice A n c] w fun e w' => e = .returned (.func (.func 42) #[] #[.pointer (some ⟨w.heap.size, 0, none⟩)]) ∧ w'.heap.size = w.heap.size + 1 ∧ Bs w' w.heap.size (.slice A n c) 22 ∧ Below w.heap.size w w' := by
  go_enter Try.func33, Try.ntmps33
  go_wp2
  go_ret
  exact ⟨rfl, by simp, heap_alloc_new w _, (Below.refl _ _).alloc (Nat.le_refl _) _⟩
theorem RdB.same {w W : World} {A : Option Addr} {c : Nat} {xs : List UInt8} (h : RdB w A c xs) (hs : ∀ ad, A = some ad → 0 < xs.length → W.heap[ad.block]? = w.heap[ad.block]?) : RdB W A c xs := by
  refine ⟨h.1, h.2.1, h.2.2.1, fun hp => ?_⟩
  obtain ⟨ad, e, hc⟩ := h.2.2.2 hp
  refine ⟨ad, e, fun j hj => ?_⟩
  have h1 := hc j hj
  have hb : (ad.add j).block = ad.block := by unfold Addr.add; split <;> rfl
  exact (World.cell?_of_block (by rw [hb]; exact hs ad e hp)).trans h1
/-- what a round hands out -/
def valsS (b : List UInt8) (k bd : Nat) (vs : Array Value) (W : World) : Prop :=
  ∃ A' c', vs = #[.agg #[.int .i64 (recAt b k).1, .slice A' (recAt b k).2.length c'], .int .i64 (pos b (k + 1) : Int)] ∧ OwB W bd (.slice A' (recAt b k).2.length c') (recAt b k).2
set_option maxRecDepth 100000 in
set_option maxHeartbeats 1600000 in
theorem iterS_any (A : Option Addr) (c : Nat) (b : List UInt8) (c0 : Nat) (own : Nat → Prop) (w : World) (hbox : Bs w c0 (.slice A b.length c) 22) (hx : RdB w A c b) (hl : b.length ≤ 17592186044416) (ho0 : own c0) (hoA : ∀ ad, A = some ad → 0 < b.length → ad.block < w.heap.size ∧ own ad.block) :
    IterV Try.prog 42 #[.pointer (some ⟨c0, 0, none⟩)] own (scanN b) (valsS b) w := by
  obtain ⟨hok, hno⟩ := scanN_spec b
  generalize scanN b = N at *
  intro d l J Jx W hW hsz hJ hR h0
  have hc0 : c0 < w.heap.size := (Array.getElem?_eq_some_iff.1 hbox).1
  have hm := hx.max
  have hle := hx.le
  obtain ⟨m, hbm⟩ : ∃ m, b.length = m := ⟨_, rfl⟩
  have HM := hide hbm
  rw [hbm] at hl hm hle hbox
  clear hbm
  refine callsIn_of_wp Try.func42 rfl trivial ?_ rfl
  simp only [Try.ntmps42, List.size_toArray, List.length_cons, List.length_nil, Nat.reduceAdd, Nat.reduceSub, Array.replicate_succ, Array.replicate_zero, List.push_toArray, List.append_toArray, List.nil_append, List.cons_append]
  gi_wp2
  gi_loopw [3] (fun i wr => ∃ k : Nat, k ≤ N ∧ i = .int .i64 (pos b k : Int) ∧ J k wr ∧ (∀ j, own j → j < w.heap.size → wr.heap[j]? = w.heap[j]?) ∧ W.heap.size ≤ wr.heap.size) (fun i _ => m + 1 - (intOf i).toNat)
  case atStart => exact ⟨0, by omega, rfl, h0, hW, Nat.le_refl _⟩
  case round =>
    obtain ⟨k, hk, rfl, hJk, hkeep, hsW⟩ := hrel
    have hpl := (pos_le b k (fun j hj => hok j (by omega)))
    rw [HM.out] at hpl
    obtain ⟨hpl1, hpl2⟩ := hpl
    have hbr : Bs wr c0 (.slice A m c) 22 := (hkeep c0 ho0 hc0).trans hbox
    have q0 := blk_cell hbr 0
    have hxr : RdB wr A c b := hx.same (fun ad e h => hkeep _ (hoA ad e h).2 (hoA ad e h).1)
    have hdl : (b.drop (pos b k)).length = m - pos b k := by rw [List.length_drop, HM.out]
    have hsl := fun W => slice_lo 22 5 Try.underlying22 (i := _) rfl rfl A m c (pos b k) hpl2 W
    have hG := FGet_any (cutA A c (pos b k)) (c - pos b k) (b.drop (pos b k)) wr (hxr.drop (pos b k) (by rw [HM.out]; exact hpl2)) (by rw [hdl]; omega)
    rw [hdl] at hG
    have hfg := fg_ok (b.drop (pos b k))
    rw [hdl] at hfg
    have hrc : recAt b k = (fgK (b.drop (pos b k)), fgX (b.drop (pos b k))) := rfl
    have hps : pos b (k + 1) = pos b k + fgS (b.drop (pos b k)) := rfl
    by_cases hlt : k < N
    · have hE : fgE (b.drop (pos b k)) = 0 := hok k hlt
      obtain ⟨hf1, hf2, hf3⟩ := hfg hE
      have hRk := fun vs A => hR k wr.heap.size vs A hlt hsW
      unfold valsS at hRk
      rw [hrc] at hRk
      rw [hE] at hG
      unfold fil at hG
      simp only at hRk
      generalize fgK (b.drop (pos b k)) = K at *
      generalize fgX (b.drop (pos b k)) = X at *
      generalize fgS (b.drop (pos b k)) = S at *
      have HPS := hide hps
      rw [hps] at hRk
      generalize pos b k = p at *
      obtain ⟨n, hn⟩ : ∃ n, X.length = n := ⟨_, rfl⟩
      rw [hn] at hG hRk
      obtain ⟨q, hq⟩ : ∃ q, m - p = q := ⟨_, rfl⟩
      rw [hq] at hsl hG
      obtain ⟨s, hs⟩ : ∃ s, p + S = s := ⟨_, rfl⟩
      rw [hs] at hRk
      have hs1 : s ≤ m := by omega
      have hs2 : p < s := by omega
      have a1 : wrap64 ((p : Int) + (S : Int)) = (s : Int) := by rw [show (p : Int) + (S : Int) = (s : Int) by omega]; exact wrap64_id s (Nat.le_trans hs1 (Nat.le_trans hl (by decide)))
      have HS := hide hs
      clear hn hps hq hs hdl hrc hE hfg hok hno hf1 hf2 hf3 hR
      gi_wp2
      refine ⟨wide_fn _, wide_depth _, (callsIn_wide.2 hG).mono ?_⟩
      rintro e w1 ⟨A1, c1, rfl, HO1, HB1⟩
      have b1 := below_alloc w1 (.cells #[.int .i64 K, .slice A1 n c1] 29)
      have X1 := Bx.new w1 K (.slice A1 n c1) 29
      obtain ⟨x10, x11, x12, x13⟩ := X1.read
      have z1 := HB1.size
      have z2 := b1.size
      have HO12 := HO1.below b1
      have HB2 := HB1.trans (b1.mono HB1.size)
      obtain ⟨fn, tmps, assign, body, hy, hRd⟩ := hRk _ _ ⟨A1, c1, rfl, HO12⟩ (hJ _ _ _ HB2 hJk)
      have HK2 : Hid (∀ j, own j → j < w.heap.size → (w1.alloc (.cells #[.int .i64 K, .slice A1 n c1] 29)).heap[j]? = w.heap[j]?) := hide (fun j h1 h2 => (HB2.block j (by omega)).trans (hkeep j h1 h2))
      have HJ := hide hJ
      clear hRk hkeep hJ hW HO1 HB1 hG hxr hbr hJk HO12 HB2
      gi_wp2
      refine ⟨fun h => absurd h (by simp [Fence.wide]), hRd.mono ?_⟩
      rintro e B (⟨rfl, hJB, hkB, hsB⟩ | ⟨rfl, hJx⟩)
      · gi_wp2
        go_roundw
        case rel => exact ⟨k + 1, by omega, by rw [HPS.out, HS.out], hJB, fun j h1 h2 => (hkB j h1 h2).trans (HK2.out j h1 h2), by omega⟩
        case measure =>
          clear a1
          simp [intOf]
          omega
      · gi_wp2
        refine bodyPost_ret (results_none rfl _ _ _) rfl ?_
        exact ⟨⟨_, rfl⟩, .inr ⟨k, hlt, hJx⟩⟩
    · obtain rfl : k = N := by omega
      have hE : ¬ fgE (b.drop (pos b k)) = 0 := hno
      unfold fil at hG
      generalize fgE (b.drop (pos b k)) = E at *
      generalize fgK (b.drop (pos b k)) = K at *
      generalize fgX (b.drop (pos b k)) = X at *
      generalize fgS (b.drop (pos b k)) = S at *
      generalize pos b k = p at *
      obtain ⟨n, hn⟩ : ∃ n, X.length = n := ⟨_, rfl⟩
      rw [hn] at hG
      obtain ⟨q, hq⟩ : ∃ q, m - p = q := ⟨_, rfl⟩
      rw [hq] at hsl hG
      clear hn hq hps hdl hrc hfg hok hno hR
      gi_wp2
      refine ⟨wide_fn _, wide_depth _, (callsIn_wide.2 hG).mono ?_⟩
      rintro e w1 ⟨A1, c1, rfl, HO1, HB1⟩
      have b1 := below_alloc w1 (.cells #[.int .i64 K, .slice A1 n c1] 29)
      have HB2 := HB1.trans (b1.mono HB1.size)
      have HJ := hide (hJ _ _ _ HB2 hJk)
      clear hJ hW HO1 HB1 hG hxr hbr hJk hkeep HB2
      gi_wp2
      refine ⟨(fun _ h => (nomatch h)), ?_⟩
      gi_wp2
      refine bodyPost_ret (results_none rfl _ _ _) rfl ?_
      exact ⟨⟨_, rfl⟩, .inl HJ.out⟩
end Go.Proofs.Ytaonjbpaeloniaa

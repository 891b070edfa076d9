/- Frame: the walk of the reference's Scan. -/
import Derived.Test.YtaonjbpaeloniaaFrG
import Derived.Test.YtaonjbpaeloniaaFrH
namespace Go.Proofs.Ytaonjbpaeloniaa
open Go.RowKit Go.Proofs.YtaonjbpaeloniaaW.PrintWords
set_option linter.unusedVariables false

theorem info_rec : (Try.prog.info? 24).map (fun i => (i.zero, i.size, i.bytes)) = some (some (.agg #[.int .i64 0, .slice none 0 0]), 2, 32) := by kernel_rfl
theorem info_frec : (Try.prog.info? 29).map (fun i => (i.zero, i.size, i.bytes)) = some (some (.agg #[.int .i64 0, .slice none 0 0]), 2, 32) := by kernel_rfl
/-- a record made: its octets lie from a bound on -/
theorem kRec_M {w : World} {base : Nat} {ok : Nat → Prop} {K : Int} {v : Value} {xs : List UInt8} (h : OwB w base v xs) (hok : ∀ k, v.ownBlock = some k → ok k) : kRec.M w base ok (K, xs) [.int .i64 K, v] :=
  ⟨[.int .i64 K], [v], rfl, rfl, v, rfl, Kd.R_of_own h hok⟩
/-- records made -/
def OwR (e : Nat) (w : World) (base : Nat) (v : Value) (rs : List (Int × List UInt8)) : Prop := kRec.R e w base (fun _ => True) v rs
theorem OwR.below {e : Nat} {w w1 : World} {base : Nat} {v : Value} {rs : List (Int × List UInt8)} (h : OwR e w base v rs) (hb : Below w.heap.size w w1) : OwR e w1 base v rs := Kd.R_below h hb
theorem OwR.zero (e : Nat) (w : World) (base : Nat) : OwR e w base (.slice none 0 0) [] := Kd.R_nil _ _ _ _ _
theorem OwR.rd {e : Nat} {w : World} {base : Nat} {v : Value} {rs : List (Int × List UInt8)} (h : OwR e w base v rs) : ∃ A c, v = .slice A rs.length c ∧ RdR w A c rs := by
  obtain ⟨A, c, hv, hl, hC⟩ := Kd.R_reads h
  exact ⟨A, c, hv, hl, hC⟩
theorem OwR.lt {e : Nat} {w : World} {base : Nat} {v : Value} {rs : List (Int × List UInt8)} (h : OwR e w base v rs) (k : Nat) (hk : v.ownBlock = some k) : k < w.heap.size := by
  obtain ⟨_, inner, ho, _⟩ := h
  exact own_lt ho k hk
section
variable {ops : Array Oper} {rest : List Oper} {o : Oper} {a : Act} {Q : Exit → Act → World → Prop}
/-- a record appended: its octets are younger than the row -/
theorem app_rec {w0 W : World} (e t : TypeId) (base lo : Nat) (hgd : o.guard = none) (s x : Operand)
    (ho : o.op = .call { callee := .builtin .append, args := #[s, x], argTypes := #[t, t] }) (ht : Try.prog.underlying t = some (.slice e))
    (hi : (Try.prog.info? e).map (fun i => (i.zero, i.size, i.bytes)) = some (some (.agg #[.int .i64 0, .slice none 0 0]), 2, 32))
    (v : Value) (rs : List (Int × List UInt8)) (K : Int) (u : Value) (xs : List UInt8) (hs : a.eval s = v) (hx : a.eval x = .slice (some ⟨W.heap.size, 0, none⟩) 1 1)
    (HO : OwR e W base v rs) (hu : OwB W lo u xs) (hbl : base ≤ lo) (hlo : ∀ k, v.ownBlock = some k → k < lo) (HB : Below base w0 W) (hbase : base ≤ W.heap.size) (hl : (rs.length + 1) * 32 ≤ 140737488355328)
    (h : ∀ v1 w1, OwR e w1 base v1 (rs ++ [(K, xs)]) → Below base w0 w1 → wpList Try.prog ops Q rest (a.put o.dst v1) w1) :
    wpList Try.prog ops Q (o :: rest) a (W.alloc (.cells #[.int .i64 K, u] e)) :=
  Kd.R_append (P := Try.prog) kRec (w0 := w0) base hgd s x t e (.agg #[.int .i64 0, .slice none 0 0]) 32 ho ht hi rfl (by decide) (by decide) v rs (K, xs) [.int .i64 K, u] (fun _ => True) (fun k => lo ≤ k) hs hx
    (kRec_M (hu.lower hbl) (fun k hk => hu.ge k hk)) (fun k hk => ⟨trivial, fun e => by have := hlo k e.symm; omega⟩) (fun _ _ => trivial) HO HB hbase hl (fun v1 w1 h1 h2 _ _ => h v1 w1 h1 h2)
end
set_option maxRecDepth 100000 in
set_option maxHeartbeats 1600000 in
theorem rScan_any (A : Option Addr) (c : Nat) (b : List UInt8) (w : World) (hx : RdB w A c b) (hl : b.length ≤ 17592186044416) :
    Calls Try.prog 19 #[.slice A b.length c] w fun e w' => ∃ v, e = .returned (.tuple #[v, .int .i64 (scanEnd b : Int)]) ∧ OwR 24 w' w.heap.size v (scanRs b) ∧ Below w.heap.size w w' := by
  have hm := hx.max
  obtain ⟨hok, hno⟩ := scanN_spec b
  unfold scanRs scanEnd
  generalize scanN b = N at *
  obtain ⟨m, hbm⟩ : ∃ m, b.length = m := ⟨_, rfl⟩
  have HM := hide hbm
  rw [hbm] at hl hm ⊢
  have hcm : m ≤ c := by have := hx.le; omega
  clear hbm
  go_enter Try.func19, Try.ntmps19
  go_wp2
  go_loopw [4, 5] (fun out i wr => ∃ k : Nat, k ≤ N ∧ i = .int .i64 (pos b k : Int) ∧ OwR 24 wr w.heap.size out (recsTo b k) ∧ Below w.heap.size w wr) (fun _ i _ => m + 1 - (intOf i).toNat)
  case atStart => exact ⟨0, by omega, rfl, OwR.zero _ _ _, Below.refl _ _⟩
  case round =>
    obtain ⟨k, hk, rfl, HO, HB⟩ := hrel
    have hpl := (pos_le b k (fun j hj => hok j (by omega)))
    rw [HM.out] at hpl
    obtain ⟨hpl1, hpl2⟩ := hpl
    have hdr := fun W (h : Below w.heap.size w W) => (hx.below h).drop (pos b k) (by rw [HM.out]; exact hpl2)
    have hdl : (b.drop (pos b k)).length = m - pos b k := by rw [List.length_drop, HM.out]
    have hsl := fun W => slice_lo 22 5 Try.underlying22 (i := _) rfl rfl A m c (pos b k) hpl2 W
    have hG := fun W (h : Below w.heap.size w W) => rFGet_any (cutA A c (pos b k)) (c - pos b k) (b.drop (pos b k)) W (hdr W h) (by rw [hdl]; omega)
    rw [hdl] at hG
    have hfg := fg_ok (b.drop (pos b k))
    rw [hdl] at hfg
    have hrc : recAt b k = (fgK (b.drop (pos b k)), fgX (b.drop (pos b k))) := rfl
    have hps : pos b (k + 1) = pos b k + fgS (b.drop (pos b k)) := rfl
    have hrl := recsTo_length b k
    by_cases hlt : k < N
    · have hE : fgE (b.drop (pos b k)) = 0 := hok k hlt
      obtain ⟨hf1, hf2, hf3⟩ := hfg hE
      have HRS := hide (recsTo_succ b k)
      rw [hrc] at HRS
      rw [hE] at hG
      unfold fil at hG
      generalize fgK (b.drop (pos b k)) = K at *
      generalize fgX (b.drop (pos b k)) = X at *
      generalize fgS (b.drop (pos b k)) = S at *
      generalize recsTo b k = rs at *
      have HPS := hide hps
      generalize pos b k = p at *
      obtain ⟨n, hn⟩ : ∃ n, X.length = n := ⟨_, rfl⟩
      rw [hn] at hG
      have HN := hide hn
      obtain ⟨q, hq⟩ : ∃ q, m - p = q := ⟨_, rfl⟩
      rw [hq] at hsl hG
      obtain ⟨s, hs⟩ : ∃ s, p + S = s := ⟨_, rfl⟩
      have a1 : (p : Int) + (S : Int) = (s : Int) := by omega
      have hs1 : s ≤ m := by omega
      have hs2 : p < s := by omega
      have a2 : wrap64 (s : Int) = (s : Int) := by unfold wrap64; omega
      have HRL := hide hrl
      have HS := hide hs
      clear hn hps hq hs hrl hdl hrc hE hfg hok hno hdr hf1 hf2 hf3
      go_wp2_with (first | (go_at_call 17; (with_reducible refine (hG _ HB).mono ?_); rintro e w1 ⟨A1, c1, rfl, HO1, HB1⟩; have b1 := below_alloc w1 (.cells #[.int .i64 K, .slice A1 n c1] 24); have X1 := Bx.new w1 K (.slice A1 n c1) 24; obtain ⟨x10, x11, x12, x13⟩ := X1.read; have z1 := HB1.size; have z0 := HB.size; have hOl := HO.lt; have HO2 := (HO.below HB1).below b1; have HO12 := HO1.below b1; have HB2 := (HB.trans (HB1.mono HB.size)).alloc (HB.trans (HB1.mono HB.size)).size (.cells #[.int .i64 K, .slice A1 n c1] 24)) | (at_builtin; refine app_rec (w0 := w) 24 47 w.heap.size wr.heap.size rfl (.tmp 21) (.tmp 23) rfl Try.underlying47 info_rec _ rs K (.slice A1 n c1) X rfl (by rw [World.size_alloc]; rfl) HO2 HO12 z0 (fun k hk => hOl k hk) HB2 HB2.size (by rw [HRL.out]; omega) ?_; intro v5 w5 HO5 HB5))
      go_roundw
      case rel => exact ⟨k + 1, by omega, by rw [HPS.out, HS.out], by rw [HRS.out]; exact HO5, HB5⟩
      case measure => simp [intOf]; omega
    · obtain rfl : k = N := by omega
      have hE : ¬ fgE (b.drop (pos b k)) = 0 := hno
      unfold fil at hG
      generalize fgE (b.drop (pos b k)) = E at *
      generalize fgK (b.drop (pos b k)) = K at *
      generalize fgX (b.drop (pos b k)) = X at *
      generalize fgS (b.drop (pos b k)) = S at *
      obtain ⟨n, hn⟩ : ∃ n, X.length = n := ⟨_, rfl⟩
      rw [hn] at hG
      obtain ⟨q, hq⟩ : ∃ q, m - pos b k = q := ⟨_, rfl⟩
      rw [hq] at hsl hG
      clear hn hq hps hrl hdl hrc hfg hok hno hdr
      go_wp2_with (first | (go_at_call 17; (with_reducible refine (hG _ HB).mono ?_); rintro e w1 ⟨A1, c1, rfl, HO1, HB1⟩; have b1 := below_alloc w1 (.cells #[.int .i64 K, .slice A1 n c1] 24); have HO2 := (HO.below HB1).below b1; have HB2 := (HB.trans (HB1.mono HB.size)).alloc (HB.trans (HB1.mono HB.size)).size (.cells #[.int .i64 K, .slice A1 n c1] 24)))
      go_ret2
      exact ⟨_, rfl, HO2, HB2⟩
end Go.Proofs.Ytaonjbpaeloniaa

/- The disk's Load. -/
import Derived.Test.YtoojcgmdcbcenaaM8
namespace Go.Proofs.Ytoojcgmdcbcenaa
open Go.RowKit Go.Maps Go.Proofs.YtoojcgmdcbcenaaW.PrintWords
set_option linter.unusedVariables false
set_option linter.unusedSimpArgs false
set_option maxRecDepth 100000

section
variable {w0 w : World} {p : Nat} {d : Dsk} {L : List Res}
theorem loadD_one (b : List Int) : ∀ l ∈ (loadD b).vals, l.length = 1 := fun l hl => by
  simp only [loadD, List.mem_map] at hl; obtain ⟨k, _, rfl⟩ := hl; rfl
theorem loadD_len (b : List Int) : (loadD b).vals.length = b.length / 256 := by simp [loadD]
theorem loadD_sure {b : List Int} (h : b.length % 256 = 0) : (loadD b).sure = b := by
  have key : ∀ (n : Nat) (b : List Int), b.length = n * 256 → ((List.range n).map fun i => (b.drop (i * 256)).take 256).flatten = b := by
    intro n
    induction n with
    | zero =>
      intro b hb
      have : b = [] := List.eq_nil_of_length_eq_zero (by omega)
      rw [this]; rfl
    | succ n ih =>
      intro b hb
      rw [List.range_succ_eq_map, List.map_cons, List.map_map, List.flatten_cons, Nat.zero_mul, List.drop_zero]
      have e : ((fun i => (b.drop (i * 256)).take 256) ∘ Nat.succ) = fun i => ((b.drop 256).drop (i * 256)).take 256 := by
        funext i
        simp only [Function.comp, List.drop_drop]
        congr 2
        show (i + 1) * 256 = _
        omega
      rw [e, ih (b.drop 256) (by rw [List.length_drop]; omega), List.take_append_drop]
  have e := key (b.length / 256) b (by omega)
  rw [Dsk.sure, loadD, List.flatMap_map]
  rw [List.flatMap_def]
  conv => rhs; rw [← e]
  rfl
theorem Many.congr {D : DU} {vals vals' : List (List Sec)} (h : Many D vals) (hl : vals'.length = vals.length) (hi : ∀ i, i < vals.length → (vals'.getD i []).length = (vals.getD i []).length) : Many D vals' :=
  ⟨fun i hh => by rw [h.at_ i (hl ▸ hh), hi i (hl ▸ hh)], fun i hh => by rw [h.has i (hl ▸ hh), hi i (hl ▸ hh)], fun kl hk => by
    obtain ⟨i, h1, h2⟩ := h.only kl hk
    exact ⟨i, by omega, h2⟩⟩
/-- A new disk gets its bytes. -/
theorem load_copy {B : Res} {A : Option Addr} {b : List Int} {c : Nat} (H : St w0 w (rDisk p (newD (b.length / 256)) :: B :: L)) (hB : ∀ {w : World} {T S : Foot}, B.has w T S → Rd w A b) (h0 : b.length % 256 = 0) (h1 : 1 ≤ b.length / 256) (h2 : b.length / 256 ≤ 4096) (hby : ∀ x ∈ b, 0 ≤ x ∧ x ≤ 255) :
    ∃ g cc W2, w.cell? ⟨p, 0, none⟩ = some (.slice (some ⟨g, 0, none⟩) b.length cc) ∧ (∀ ty, (Builtin.copy_ #[31, 31] ty #[.slice (some ⟨g, 0, none⟩) b.length cc, .slice A b.length c]).run Try.prog w = .ok (goInt b.length) W2) ∧ St w0 W2 (rDisk p (loadD b) :: B :: L) := by
  obtain ⟨x, H⟩ := H.disk
  have hd := H.diskIs
  have hl : (newD (b.length / 256)).vals.length = b.length / 256 := by simp [newD]
  have hlen : b.length / 256 * 256 = b.length := by omega
  obtain ⟨c0, _⟩ := hd.atF.toAt
  rw [hl, hlen] at c0
  have hrow := hd.sureRow
  rw [hl, hlen, hd.ok.sure_len, hl, hlen] at hrow
  have hsl : (newD (b.length / 256)).sure.length = b.length := by rw [hd.ok.sure_len, hl, hlen]
  have hRd : Rd w A b := by
    obtain ⟨T, S, hh, _⟩ := H.drop.drop.drop.drop.drop.fst
    exact hB hh
  obtain ⟨ad, rfl, _⟩ := hRd.2.2 (by omega)
  obtain ⟨W2, hc, ho, hg⟩ := row_copy (off := 0) (dLen := b.length) (dCap := x.cap) (sLen := b.length) (sCap := c) (bs := (newD (b.length / 256)).sure) (by rw [hsl]; exact hrow) hRd (by omega) (by omega)
  have eb : (newD (b.length / 256)).sure.take 0 ++ b ++ (newD (b.length / 256)).sure.drop (0 + b.length) = b := by
    rw [List.drop_of_length_le (by omega)]; simp
  rw [eb] at ho
  refine ⟨x.a, x.cap, W2, c0, hc, ?_⟩
  have hM := hd.many
  have H1 := (St.fact H).2
  -- blk, row, mf, mm, vals, B, L
  have H2 := (St.swap H1).setRow ho hg (.inl rfl)
  have H3 := vals_one (Df := x.Df) (loadD_one b) (St.rot5 H2).drop
  -- vals', row, blk, mf, mm, B, L
  have hll : (loadD b).vals.length = (newD (b.length / 256)).vals.length := by rw [loadD_len, hl]
  have hex : ∀ d : Dsk, (∀ l ∈ d.vals, l.length = 1) → d.extra = 0 := fun d h => by
    have := sum_le (c := 0) d.vals fun l hl => by rw [h l hl]; omega
    unfold Dsk.extra
    omega
  have he1 := hex _ (newD_one (b.length / 256))
  have he2 := hex _ (loadD_one b)
  have hM2 : Many x.Dm (loadD b).vals := hM.congr hll fun i hi => by
    rw [newD_one _ _ (hd.ok.get hi), loadD_one b _ ((loadD_ok h0 h1 h2 hby).get (by omega))]
  refine St.mkDisk x ?_
  unfold rDiskX
  refine St.infact ⟨loadD_ok h0 h1 h2 hby, hM2⟩ ?_
  rw [he1] at H3
  have ho2 : dObj x (loadD b) = dObj x (newD (b.length / 256)) := by simp only [dObj, hll]; rfl
  have e3 : (loadD b).vals.length * 256 = b.length := by rw [loadD_len, hlen]
  rw [he2, ho2, loadD_sure h0, e3]
  exact H3.perm ((List.perm_middle (l₁ := [_, _])).trans (List.Perm.cons _ ((List.perm_middle (l₁ := [_])).trans (List.Perm.cons _ (List.perm_middle (l₁ := [_, _])).symm))))
set_option maxHeartbeats 2000000 in
theorem St.load {B : Res} {A : Option Addr} {b : List Int} {c : Nat} (H : St w0 w (B :: L)) (hB : ∀ {w : World} {T S : Foot}, B.has w T S → Rd w A b) (hby : ∀ x ∈ b, 0 ≤ x ∧ x ≤ 255) :
    Calls Try.prog 27 #[.slice A b.length c] w fun e w' => if b.length % 256 = 0 ∧ 1 ≤ b.length / 256 ∧ b.length / 256 ≤ 4096 then ∃ p, e = .returned (.tuple #[.pointer (some ⟨p, 0, none⟩), .int .i64 0]) ∧ St w0 w' (rDisk p (loadD b) :: B :: L) else e = .returned (.tuple #[.pointer none, .int .i64 2]) ∧ w' = w := by
  have hl : b.length ≤ 9223372036854775807 := by
    obtain ⟨T, S, hh, _⟩ := H.fst
    exact (hB hh).2.1
  have hcp : ∀ W p, b.length % 256 = 0 → 1 ≤ b.length / 256 → b.length / 256 ≤ 4096 → St w0 W (rDisk p (newD (b.length / 256)) :: B :: L) → _ := fun W p h0 h1 h2 hW => load_copy (c := c) hW hB h0 h1 h2 hby
  obtain ⟨len, hlen⟩ : ∃ len, len = b.length := ⟨_, rfl⟩
  rw [← hlen] at hl hcp ⊢
  obtain ⟨r, hr⟩ : ∃ r, r = len % 256 := ⟨_, rfl⟩
  obtain ⟨n, hn⟩ : ∃ n, n = len / 256 := ⟨_, rfl⟩
  have tr : (len : Int).tmod 256 = (r : Int) := by rw [Int.tmod_eq_emod_of_nonneg (by omega)]; omega
  have td : wrap64 ((len : Int).tdiv 256) = (n : Int) := by rw [Int.tdiv_eq_ediv_of_nonneg (by omega)]; unfold wrap64; omega
  have er : ((len : Int) % 256) = (r : Int) := by omega
  have ed : wrap64 ((len : Int) / 256) = (n : Int) := by unfold wrap64; omega
  rw [← hr, ← hn] at hcp ⊢
  by_cases h0 : r = 0
  · by_cases h1 : 1 ≤ n ∧ n ≤ 4096
    · have hc1 : r = 0 ∧ 1 ≤ n ∧ n ≤ 4096 := ⟨h0, h1⟩
      simp only [if_pos hc1]
      have hnew := H.new (n := n) h1.1 h1.2
      subst h0
      have HC := Aside0.mk fun W p (hW : St w0 W (rDisk p (newD n) :: B :: L)) => hcp W p rfl h1.1 h1.2 hW
      clear H hr hn hl hcp hc1 hlen
      go_enter Try.func27, Try.ntmps27
      go_wp2_with fail
      refine hnew.mono ?_
      rintro e w1 ⟨p, rfl, H1⟩
      obtain ⟨g, cc, W2, c0, hcopy, H2⟩ := HC.out w1 p H1
      have HF := Aside0.mk H2
      clear H1 H2
      go_wp2
      go_ret2
      exact ⟨p, rfl, HF.out⟩
    · have hc1 : ¬ (r = 0 ∧ 1 ≤ n ∧ n ≤ 4096) := fun h => h1 h.2
      simp only [if_neg hc1]
      have hnew := new_err (w := w) (n := (n : Int)) (fun h => h1 (by omega))
      subst h0
      clear H hr hn hl hcp hc1 hlen
      go_enter Try.func27, Try.ntmps27
      go_wp2_with fail
      refine hnew.mono ?_
      rintro e w1 ⟨rfl, rfl⟩
      go_wp2
      go_ret2
      exact ⟨rfl, rfl⟩
  · have hc1 : ¬ (r = 0 ∧ 1 ≤ n ∧ n ≤ 4096) := fun h => h0 h.1
    simp only [if_neg hc1]
    have b1 : ((r : Int) == 0) = false := by simpa using h0
    clear H hr hn hl hcp hc1 hlen
    go_enter Try.func27, Try.ntmps27
    go_wp2
    go_ret2
    exact ⟨rfl, rfl⟩
end
end Go.Proofs.Ytoojcgmdcbcenaa

/- Walk: attacked; the law ProofnumBudget. Walk: the law ProofnumRight. -/
import Derived.Test.YtnaggpibfmednaaGProofA
import Derived.Test.YtnaggpibfmednaaGSmall
import Derived.Test.YtnaggpibfmednaaGSamples
namespace Go.Proofs.Ytnaggpibfmednaa
open Go.ChangeShapes Go.WideShapes Go.ChangeAt Go.RowKit Go.Shelf
set_option linter.unusedVariables false
set_option linter.unusedSimpArgs false
set_option maxRecDepth 100000 in
theorem near_prov : provE threeR nearP 10 = 0 ∧ stN (provT threeR nearP 10).1 = 0 ∧ (provT threeR nearP 10).1.a = 0 ∧ (provT threeR nearP 10).2 = 1 ∧ firstP threeR nearP 10 = some ⟨-1, 2, 0⟩ := by decide +kernel
theorem provE_bad {R : RulesM} {P : PosM} {D : Int} (h : checkE R P ≠ 0) : provE R P D = checkE R P := if_pos h
theorem provE_ok {R : RulesM} {P : PosM} {D : Int} (h : checkE R P = 0) (h0 : 0 ≤ D) (h1 : D ≤ 5000) : provE R P D = 0 := by
  unfold provE
  rw [if_neg (by simpa using h), if_neg (by omega)]
theorem some_mod (n : Int) (hn : 1 ≤ n) (hb : n ≤ 1000) (a K : Int) (h : (wrap64 (a.tmod n + n)).tmod n = K) : 0 ≤ K ∧ K < n := by
  obtain ⟨h1, h2, h3, h4⟩ := some_idx (n := a) (l := n) hn
  have e : wrap64 (a.tmod n + n) = a.tmod n + n := by unfold wrap64; omega
  rw [e] at h
  omega
theorem budget_facts {R : RulesM} {P : PosM} {K M : Int} (hc : checkE R P = 0) (k0 : 0 ≤ K) (k1 : K < 40) (m0 : 0 ≤ M) (m1 : M < 40) : provE R P K = 0 ∧ provE R P (K + M) = 0 ∧
    ((stN (provT R P K).1 ≠ 2 ∧ provT R P (K + M) = provT R P K ∧ ((provT R P K).2 : Int) ≤ K) ∨
     (stN (provT R P K).1 = 2 ∧ ((provT R P K).2 : Int) = K ∧ K ≤ ((provT R P (K + M)).2 : Int) ∧ 0 < (provT R P K).1.a ∧ 0 < (provT R P K).1.b)) := by
  have e1 : provE R P K = 0 := provE_ok hc k0 (by omega)
  refine ⟨e1, provE_ok hc (by omega) (by omega), ?_⟩
  have hle : ((provT R P K).2 : Int) ≤ K := by
    have := prov_le R P.turn K.toNat (leafN R P.turn P)
    have h : (provT R P K).2 ≤ K.toNat := this
    omega
  have hsum : (K + M).toNat = K.toNat + M.toNat := by omega
  by_cases ho : OpenN (provT R P K).1
  · obtain ⟨h1, h2⟩ := prov_all R P.turn K.toNat (leafN R P.turn P) ho
    have h1' : (provT R P K).2 = K.toNat := h1
    have h3 := h2 M.toNat
    rw [← hsum] at h3
    have h3' : K.toNat ≤ (provT R P (K + M)).2 := h3
    have hs := (provT_inv e1).1.score (check_iff.1 hc).2.turn
    refine .inr ⟨stN_open.2 ho, by omega, by omega, ?_, ?_⟩
    · have := hs.1; have := ho.1; omega
    · have := hs.2.1; have := ho.2; omega
  · refine .inl ⟨fun h => ho (stN_open.1 h), ?_, hle⟩
    have := prov_more R P.turn K.toNat M.toNat (leafN R P.turn P) ho
    unfold provT
    rw [hsum]
    exact this
end Go.Proofs.Ytnaggpibfmednaa
namespace Go.Proofs.Ytnaggpibfmednaa
open Go.ChangeShapes Go.WideShapes Go.ChangeAt Go.RowKit Go.Shelf
set_option linter.unusedVariables false
set_option linter.unusedSimpArgs false
theorem right_facts {R : RulesM} {P : PosM} {K D : Int} (he : provE R P K = 0) (hf : perftE R P D = 0) : (0 < scoreM R P D → stN (provT R P K).1 ≠ 1) ∧ (scoreM R P D < 0 → stN (provT R P K).1 = 1 ∨ stN (provT R P K).1 = 2) := by
  obtain ⟨i1, -, i3⟩ := provT_inv he
  obtain ⟨hV, hS⟩ := check_iff.1 (provE_zero he).1
  obtain ⟨-, -, d0, d1, -⟩ := perft_zero hf
  have hs : scoreM R P D = ofM R D.toNat P := if_pos hf
  obtain ⟨a0, b0, h1, h2⟩ := i1.score hS.turn
  have e : atkM R P.turn D.toNat P = ofM R D.toNat P := by unfold atkM ownB'; rw [decide_eq_true rfl, if_pos rfl]
  rw [i3] at h1 h2
  rw [hs]
  unfold stN
  refine ⟨fun h => ?_, fun h => ?_⟩
  · split
    · omega
    · split
      · rename_i hb
        have := h2 hb D.toNat (by omega)
        omega
      · omega
  · split
    · rename_i ha
      have := h1 ha D.toNat (by omega)
      omega
    · split <;> omega
end Go.Proofs.Ytnaggpibfmednaa

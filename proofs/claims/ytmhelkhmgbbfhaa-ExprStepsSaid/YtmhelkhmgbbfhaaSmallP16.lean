/- Plain: what the law's examples are. -/
import Derived.Test.YtmhelkhmgbbfhaaLeast16
import Derived.Test.YtmhelkhmgbbfhaaEvalTop16
namespace Go.Proofs.Ytmhelkhmgbbfhaa
open Go.RowKit Go.Lib

def colE (n : Int) : Ex := .mk 3 n ByteArray.empty []
def numE (n : Int) : Ex := .mk 0 n ByteArray.empty []
def timeE : Ex := .mk 5 0 ByteArray.empty []
def oneE : Ex := .mk 22 0 ByteArray.empty [colE 0, timeE]
def twoE : Ex := .mk 11 0 ByteArray.empty [colE 0, numE 0]
def threeE : Ex := .mk 20 0 ByteArray.empty [.mk 19 0 ByteArray.empty [colE 1, .mk 1 0 ⟨#[121, 122]⟩ []]]
def notE : Ex := .mk 6 0 ByteArray.empty [colE 0]
def rowV : List Val := [⟨0, 5, ByteArray.empty⟩, ⟨1, 0, ⟨#[120]⟩⟩]

theorem ty_one : typeP [leastF] [0, 1] [] oneE = some 0 := by decide
theorem ty_not : typeP [leastF] [0, 1] [] notE = none := by decide
theorem ty_two : typeP [] [0, 1] [] twoE = some 0 := by decide
theorem ty_three : typeP [] [0, 1] [] threeE = some 0 := by decide
theorem ev_one : (evalP [leastF] 7 rowV oneE).n = 7 := by decide
theorem ev_two : (evalP [] 7 rowV twoE).n = 0 := by decide
theorem ev_three : (evalP [] 7 rowV threeE).n = 3 := by decide
theorem evv_one : evalP [leastF] 7 rowV oneE = ⟨0, 7, ByteArray.empty⟩ := by
  have hk : (evalP [leastF] 7 rowV oneE).k = 0 := by decide
  have hs : (evalP [leastF] 7 rowV oneE).s = ByteArray.empty := by decide
  have hn := ev_one
  revert hk hs hn; generalize evalP [leastF] 7 rowV oneE = Z; obtain ⟨k, n, s⟩ := Z; rintro hk hs hn; simp only at *; subst hk hs hn; rfl
theorem evv_two : evalP [] 7 rowV twoE = ⟨0, 0, ByteArray.empty⟩ := by
  have hk : (evalP [] 7 rowV twoE).k = 0 := by decide
  have hs : (evalP [] 7 rowV twoE).s = ByteArray.empty := by decide
  have hn := ev_two
  revert hk hs hn; generalize evalP [] 7 rowV twoE = Z; obtain ⟨k, n, s⟩ := Z; rintro hk hs hn; simp only at *; subst hk hs hn; rfl
theorem evv_three : evalP [] 7 rowV threeE = ⟨0, 3, ByteArray.empty⟩ := by
  have hk : (evalP [] 7 rowV threeE).k = 0 := by decide
  have hs : (evalP [] 7 rowV threeE).s = ByteArray.empty := by decide
  have hn := ev_three
  revert hk hs hn; generalize evalP [] 7 rowV threeE = Z; obtain ⟨k, n, s⟩ := Z; rintro hk hs hn; simp only at *; subst hk hs hn; rfl
theorem rowV_sound : ∀ v ∈ rowV, soundV v := by
  intro v hv
  simp only [rowV, List.mem_cons, List.not_mem_nil, or_false] at hv
  rcases hv with rfl | rfl
  · exact sound_num 5
  · exact sound_text (s := ⟨#[120]⟩) (by decide)
theorem okF_least : ∀ i, i < [leastF].length → okF [leastF] i = true := by
  intro i hi
  obtain rfl : i = 0 := by simp at hi; omega
  decide
theorem parts_least : ∀ f ∈ [leastF], parts f.body ≤ 1000000 := by
  intro f hf
  simp only [List.mem_singleton] at hf
  subst hf; decide
end Go.Proofs.Ytmhelkhmgbbfhaa

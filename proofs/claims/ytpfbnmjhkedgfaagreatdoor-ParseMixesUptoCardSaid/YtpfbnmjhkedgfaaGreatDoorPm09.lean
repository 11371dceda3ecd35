/- Parts: Plain: what Expr reads of two operators between three names, part 1. | Plain: what Expr reads of two operators between three names, part 2. | Plain: what Expr reads of two operators between three names, whole. -/
import Derived.Test.YtpfbnmjhkedgfaaGreatDoorPm08
namespace Go.Proofs.YtpfbnmjhkedgfaaGreatDoor
section
set_option maxRecDepth 100000 in
theorem mix0 : MixOk ⟨#[124, 124]⟩ := by unfold MixOk; decide +kernel
set_option maxRecDepth 100000 in
theorem mix1 : MixOk ⟨#[38, 38]⟩ := by unfold MixOk; decide +kernel
set_option maxRecDepth 100000 in
theorem mix2 : MixOk ⟨#[124]⟩ := by unfold MixOk; decide +kernel
set_option maxRecDepth 100000 in
theorem mix3 : MixOk ⟨#[94]⟩ := by unfold MixOk; decide +kernel
set_option maxRecDepth 100000 in
theorem mix4 : MixOk ⟨#[38]⟩ := by unfold MixOk; decide +kernel
set_option maxRecDepth 100000 in
theorem mix5 : MixOk ⟨#[61, 61]⟩ := by unfold MixOk; decide +kernel
set_option maxRecDepth 100000 in
theorem mix6 : MixOk ⟨#[33, 61]⟩ := by unfold MixOk; decide +kernel
set_option maxRecDepth 100000 in
theorem mix7 : MixOk ⟨#[61, 61, 61]⟩ := by unfold MixOk; decide +kernel
set_option maxRecDepth 100000 in
theorem mix8 : MixOk ⟨#[33, 61, 61]⟩ := by unfold MixOk; decide +kernel
set_option maxRecDepth 100000 in
theorem mix9 : MixOk ⟨#[60]⟩ := by unfold MixOk; decide +kernel
set_option maxRecDepth 100000 in
theorem mix10 : MixOk ⟨#[62]⟩ := by unfold MixOk; decide +kernel
set_option maxRecDepth 100000 in
theorem mix11 : MixOk ⟨#[60, 61]⟩ := by unfold MixOk; decide +kernel
set_option maxRecDepth 100000 in
theorem mix12 : MixOk ⟨#[62, 61]⟩ := by unfold MixOk; decide +kernel
end
section
set_option maxRecDepth 100000 in
theorem mix13 : MixOk ⟨#[105, 110]⟩ := by unfold MixOk; decide +kernel
set_option maxRecDepth 100000 in
theorem mix14 : MixOk ⟨#[105, 110, 115, 116, 97, 110, 99, 101, 111, 102]⟩ := by unfold MixOk; decide +kernel
set_option maxRecDepth 100000 in
theorem mix15 : MixOk ⟨#[60, 60]⟩ := by unfold MixOk; decide +kernel
set_option maxRecDepth 100000 in
theorem mix16 : MixOk ⟨#[62, 62]⟩ := by unfold MixOk; decide +kernel
set_option maxRecDepth 100000 in
theorem mix17 : MixOk ⟨#[62, 62, 62]⟩ := by unfold MixOk; decide +kernel
set_option maxRecDepth 100000 in
theorem mix18 : MixOk ⟨#[43]⟩ := by unfold MixOk; decide +kernel
set_option maxRecDepth 100000 in
theorem mix19 : MixOk ⟨#[45]⟩ := by unfold MixOk; decide +kernel
set_option maxRecDepth 100000 in
theorem mix20 : MixOk ⟨#[42]⟩ := by unfold MixOk; decide +kernel
set_option maxRecDepth 100000 in
theorem mix21 : MixOk ⟨#[47]⟩ := by unfold MixOk; decide +kernel
set_option maxRecDepth 100000 in
theorem mix22 : MixOk ⟨#[37]⟩ := by unfold MixOk; decide +kernel
set_option maxRecDepth 100000 in
theorem mix23 : MixOk ⟨#[42, 42]⟩ := by unfold MixOk; decide +kernel
set_option maxRecDepth 100000 in
theorem mix24 : MixOk ⟨#[63, 63]⟩ := by unfold MixOk; decide +kernel
end
section
theorem mix_all : ∀ a ∈ opsL, MixOk a := by
 intro a ha
 simp only [opsL, List.mem_cons, List.not_mem_nil, or_false] at ha
 rcases ha with rfl | rfl | rfl | rfl | rfl | rfl | rfl | rfl | rfl | rfl | rfl | rfl | rfl | rfl | rfl | rfl | rfl | rfl | rfl | rfl | rfl | rfl | rfl | rfl | rfl
 ·exact mix0
 ·exact mix1
 ·exact mix2
 ·exact mix3
 ·exact mix4
 ·exact mix5
 ·exact mix6
 ·exact mix7
 ·exact mix8
 ·exact mix9
 ·exact mix10
 ·exact mix11
 ·exact mix12
 ·exact mix13
 ·exact mix14
 ·exact mix15
 ·exact mix16
 ·exact mix17
 ·exact mix18
 ·exact mix19
 ·exact mix20
 ·exact mix21
 ·exact mix22
 ·exact mix23
 ·exact mix24
end
end Go.Proofs.YtpfbnmjhkedgfaaGreatDoor

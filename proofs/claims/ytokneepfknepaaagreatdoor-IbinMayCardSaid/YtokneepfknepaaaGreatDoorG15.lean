/- The walk of layer 7: may an instruction stand? All shapes together. -/
import Derived.Test.YtokneepfknepaaaGreatDoorG11
import Derived.Test.YtokneepfknepaaaGreatDoorG12
import Derived.Test.YtokneepfknepaaaGreatDoorG13
import Derived.Test.YtokneepfknepaaaGreatDoorG14
set_option linter.unusedSimpArgs false
set_option linter.unusedVariables false
namespace Go.Proofs.YtokneepfknepaaaGreatDoor
open Go.RowKit
theorem may_ok : MayOk := by
  intro w hg i tv lv cv hR hw
  obtain ⟨o, x, y, u, ⟨hk, hn⟩, ⟨jk, jn⟩, n1, n2, ts, ls, ⟨bk, ⟨vk, vn, ⟨wk, wn⟩⟩, bn⟩, cs⟩ := i
  obtain ⟨h1, h2, hts, hls, hcs⟩ := hw
  have h0 := shape_range o
  by_cases k0 : shapeP o = 0
  · exact mayW0 hg o x y u hk hn jk jn n1 n2 ts ls bk vk vn wk wn bn cs tv lv cv hR h1 h2 hts hls hcs k0 rfl
  by_cases k1 : shapeP o = 1
  · exact mayW1 hg o x y u hk hn jk jn n1 n2 ts ls bk vk vn wk wn bn cs tv lv cv hR h1 h2 hts hls hcs k1 rfl
  rcases shape_cases o with hk' | (hk' | hk') | hk' | hk' | hk' | hk' | hk' | hk' | hk' | hk' | hk' | hk'
  · exfalso
    obtain ⟨h4, h6, h7, h5, h8, h9, h10, h11, h12, h2', h3, h13⟩ := hk'
    omega
  · exact mayW4 hg o x y u hk hn jk jn n1 n2 ts ls bk vk vn wk wn bn cs tv lv cv hR h1 h2 hts hls hcs hk' rfl
  · exact mayW6 hg o x y u hk hn jk jn n1 n2 ts ls bk vk vn wk wn bn cs tv lv cv hR h1 h2 hts hls hcs hk' rfl
  · exact mayW7 hg o x y u hk hn jk jn n1 n2 ts ls bk vk vn wk wn bn cs tv lv cv hR h1 h2 hts hls hcs hk' rfl
  · exact mayW5 hg o x y u hk hn jk jn n1 n2 ts ls bk vk vn wk wn bn cs tv lv cv hR h1 h2 hts hls hcs hk' rfl
  · exact mayW8 hg o x y u hk hn jk jn n1 n2 ts ls bk vk vn wk wn bn cs tv lv cv hR h1 h2 hts hls hcs hk' rfl
  · exact mayW9 hg o x y u hk hn jk jn n1 n2 ts ls bk vk vn wk wn bn cs tv lv cv hR h1 h2 hts hls hcs hk' rfl
  · exact mayW10 hg o x y u hk hn jk jn n1 n2 ts ls bk vk vn wk wn bn cs tv lv cv hR h1 h2 hts hls hcs hk' rfl
  · exact mayW11 hg o x y u hk hn jk jn n1 n2 ts ls bk vk vn wk wn bn cs tv lv cv hR h1 h2 hts hls hcs hk' rfl
  · exact mayW12 hg o x y u hk hn jk jn n1 n2 ts ls bk vk vn wk wn bn cs tv lv cv hR h1 h2 hts hls hcs hk' rfl
  · exact mayW2 hg o x y u hk hn jk jn n1 n2 ts ls bk vk vn wk wn bn cs tv lv cv hR h1 h2 hts hls hcs hk' rfl
  · exact mayW3 hg o x y u hk hn jk jn n1 n2 ts ls bk vk vn wk wn bn cs tv lv cv hR h1 h2 hts hls hcs hk' rfl
  · exact mayW13 hg o x y u hk hn jk jn n1 n2 ts ls bk vk vn wk wn bn cs tv lv cv hR h1 h2 hts hls hcs hk' rfl
end Go.Proofs.YtokneepfknepaaaGreatDoor

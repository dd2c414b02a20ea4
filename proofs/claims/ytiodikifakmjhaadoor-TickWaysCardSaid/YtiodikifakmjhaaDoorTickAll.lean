/- The laws' walks, and what the listed tables give them. -/
import Derived.Test.YtiodikifakmjhaaDoorTickLaw
import Derived.Test.YtiodikifakmjhaaDoorLaidTab
